/- Contracts: a tree reversed. -/
import Derived.Test.YtcakmchefbohoaaGreatDoorProg
import Derived.Test.YtcakmchefbohoaaGreatDoorMem
import Derived.Test.YtcakmchefbohoaaGreatDoorMath
import Derived.Test.YtcakmchefbohoaaGreatDoorBasics
import Derived.Test.YtcakmchefbohoaaGreatDoorOpenI
import Derived.Test.YtcakmchefbohoaaGreatDoorHelpI
import Derived.Test.YtcakmchefbohoaaGreatDoorGrid
import Derived.Test.YtcakmchefbohoaaGreatDoorLab
import Derived.Test.YtcakmchefbohoaaGreatDoorDec
import Derived.Test.YtcakmchefbohoaaGreatDoorEnv
import Derived.Test.YtcakmchefbohoaaGreatDoorRLab
import Derived.Test.YtcakmchefbohoaaGreatDoorReg
import Derived.Test.YtcakmchefbohoaaGreatDoorRegW
import Derived.Test.YtcakmchefbohoaaGreatDoorVReg
import Derived.Test.YtcakmchefbohoaaGreatDoorTreeR
import Derived.Test.YtcakmchefbohoaaGreatDoorConc
import Derived.Test.YtcakmchefbohoaaGreatDoorEmp
import Derived.Test.YtcakmchefbohoaaGreatDoorRgs
import Derived.WalkKit
import Derived.BigQuiet
import Derived.BigRegion
import Derived.Deep.QuietTactic
import Derived.Maps.AppendAt
import Derived.Laws.OwnMore
import Derived.Lib.SliceRun
import Derived.Maps.Range
import Derived.Deep.AppendLies
import Derived.Deep.RegionLaw
import Derived.Lib.Hide
import Derived.Outline
set_option linter.unusedVariables false
set_option linter.unusedSimpArgs false
namespace Go.Proofs.YtcakmchefbohoaaGreatDoor
open Go.RowKit

set_option maxRecDepth 100000 in
set_option maxHeartbeats 4000000 in
theorem reverseP_any (g cap bp bq : Nat) (p q : Value) (hp : p = .pointer (some ⟨bp, 0, none⟩)) (hq : q = .pointer (some ⟨bq, 0, none⟩)) (w : World) (hc : 2 ≤ cap) (h0 : w.cell? ⟨g, 0, none⟩ = some p) (h1 : w.cell? ⟨g, 1, none⟩ = some q) (z0 : w.frozen? ⟨g, 0, none⟩ = false) (z1 : w.frozen? ⟨g, 1, none⟩ = false) :
    Calls Tryz.prog 92 #[.slice (some ⟨g, 0, none⟩) 2 cap] w fun e w' => e = .returned (.tuple #[]) ∧ w'.cell? ⟨g, 0, none⟩ = some q ∧ w'.cell? ⟨g, 1, none⟩ = some p ∧ One g w w' := by
  subst hp
  subst hq
  go_enter Tryz.func92, Tryz.ntmps92
  go_wp2_with fail
  go_loopw [2, 3] (fun si sj wr => (si = .int .i64 0 ∧ sj = .int .i64 1 ∧ wr.cell? ⟨g, 0, none⟩ = some (.pointer (some ⟨bp, 0, none⟩)) ∧ wr.cell? ⟨g, 1, none⟩ = some (.pointer (some ⟨bq, 0, none⟩)) ∧ wr.frozen? ⟨g, 0, none⟩ = false ∧ wr.frozen? ⟨g, 1, none⟩ = false ∧ One g w wr) ∨ (si = .int .i64 1 ∧ sj = .int .i64 0 ∧ wr.cell? ⟨g, 0, none⟩ = some (.pointer (some ⟨bq, 0, none⟩)) ∧ wr.cell? ⟨g, 1, none⟩ = some (.pointer (some ⟨bp, 0, none⟩)) ∧ One g w wr)) (fun si _ _ => 1 - (intOf si).toNat)
  case atStart => exact Or.inl ⟨rfl, rfl, h0, h1, z0, z1, One.refl _ _⟩
  case round =>
    clear h0 h1 z0 z1
    rcases hrel with ⟨rfl, rfl, h0, h1, z0, z1, hO⟩ | ⟨rfl, rfl, h0, h1, hO⟩
    · have n1 : (⟨g, 1, none⟩ : Addr) ≠ ⟨g, 0, none⟩ := by intro e; cases e
      go_wp2_with fail
      go_region
      go_wp2_with fail
      go_roundw
      case rel =>
        refine Or.inr ⟨by go_num, by go_num, ?_, ?_, ?_⟩
        · rw [drew_cell, World.cell?_setCell_other _ _ _ _ (by intro e; cases e)]
          exact World.cell?_setCell_same _ _ _ h0
        · rw [drew_cell]
          refine World.cell?_setCell_same _ _ _ (?_ : _ = some (.pointer (some ⟨bq, 0, none⟩)))
          rw [World.cell?_setCell_other _ _ _ _ (by intro e; cases e)]
          exact h1
        · exact ((hO.trans (One.setCell g 0 _ _)).trans (One.setCell g 1 _ _)).trans (One.drew _ _)
      case measure => simp [intOf] <;> omega
    · go_wp2_with fail
      go_end0
      exact ⟨rfl, h0, h1, hO⟩
set_option maxRecDepth 100000 in
set_option maxHeartbeats 8000000 in
theorem reversed_aux : ∀ (N : Nat) (x : Rg) (kids : FRg), kids.flat.length < N → ∀ (b : Nat) (w : World) (K : Nat → Prop), (FRg.cons x kids .nil).ok → kids.flat.length ≤ 1048576 → FAtRg w K (.cons x kids .nil) [.pointer (some ⟨b, 0, none⟩)] →
    Calls Tryz.prog 54 #[.pointer (some ⟨b, 0, none⟩)] w fun e w' => ∃ b', e = .returned (.pointer (some ⟨b', 0, none⟩)) ∧ FAtRg w' (fun c => w.heap.size ≤ c) (FRg.mir (.cons x kids .nil)) [.pointer (some ⟨b', 0, none⟩)] ∧ Below w.heap.size w w' := by
  intro N
  induction N with
  | zero => intro x kids h; exact absurd h (by omega)
  | succ N ihN => ?_
  intro x kids hNk b w K hok hkm hF
  have IH := Lib.hid ihN
  clear ihN
  obtain ⟨b', qs, v, ps', e, h1, h2, h3, h4, ⟨a, cap, rfl, h5, h6, h7⟩, h8, h9⟩ := hF
  cases e
  have c0 := h3 0 (by decide)
  have c1 := h3 1 (by decide)
  have c2 := h3 2 (by decide)
  unfold rgv at c0 c1 c2
  rw [if_pos rfl] at c0
  rw [if_neg (by decide), if_pos rfl] at c1
  rw [if_neg (by decide), if_neg (by decide)] at c2
  have hql := h8.len
  have H7 := Lib.hid h7
  have H8 := Lib.hid h8
  have hle := FRg.len_le_flat kids
  obtain ⟨m, hm⟩ : ∃ m, m = qs.length := ⟨_, rfl⟩
  rw [← hm] at h4 h5 hql
  have Hm := Lib.hid hm
  have Hql := Lib.hid hql
  have Hok := Lib.hid hok
  have hmb : m ≤ 1048576 := by omega
  obtain ⟨i0, hi, hz0, hz1, hz2⟩ := info_parts infoPRg
  have hal : (w.alloc (.cells (#[.int .i64 x.kind, .string x.lab, .bool x.neg, .slice none 0 0]) 117)).heap.size = w.heap.size + 1 := by simp
  have hbA : Below w.heap.size w (w.alloc (.cells (#[.int .i64 x.kind, .string x.lab, .bool x.neg, .slice none 0 0]) 117)) := (Below.refl _ w).alloc (Nat.le_refl _) _
  have d3 := (hbA.cell (by exact h2)).trans h4
  have HC0 : Hid (∀ j, j < 3 → (w.alloc (.cells (#[.int .i64 x.kind, .string x.lab, .bool x.neg, .slice none 0 0]) 117)).cell? ⟨w.heap.size, j, none⟩ = some (rgv x j)) := Lib.hid (by
    intro j hj
    rw [cell_of_row _ _ _ _ _ _ (heap_alloc_new w _)]
    have hc : j = 0 ∨ j = 1 ∨ j = 2 := by omega
    rcases hc with rfl | rfl | rfl <;> rfl)
  have hca0 : (w.alloc (.cells (#[.int .i64 x.kind, .string x.lab, .bool x.neg, .slice none 0 0]) 117)).cell? ⟨w.heap.size, 3, none⟩ = some (.slice none 0 0) := by
    rw [cell_of_row _ _ _ _ _ _ (heap_alloc_new w _)]; rfl
  have hcf0 : (w.alloc (.cells (#[.int .i64 x.kind, .string x.lab, .bool x.neg, .slice none 0 0]) 117)).frozen? ⟨w.heap.size, 3, none⟩ = false := frozen_of_row _ _ _ _ _ (heap_alloc_new w _)
  have hXl0 : w.heap.size < (w.alloc (.cells (#[.int .i64 x.kind, .string x.lab, .bool x.neg, .slice none 0 0]) 117)).heap.size := by rw [hal]; exact Nat.lt_succ_self _
  clear h3 h7 h8 h9 hok hm hle hql
  go_enter Tryz.func54, Tryz.ntmps54
  go_wp2_with fail
  go_loopw [17] (fun si wr => ∃ (k : Nat) (D R : FRg) (ps : List Value) (av : Value), k ≤ m ∧ si = .int .i64 k ∧ Hid (D.app R = kids ∧ D.len = k) ∧ Hid R.ok ∧ Hid (∀ j, j < 3 → wr.cell? ⟨w.heap.size, j, none⟩ = some (rgv x j)) ∧ wr.cell? ⟨w.heap.size, 3, none⟩ = some av ∧ wr.frozen? ⟨w.heap.size, 3, none⟩ = false ∧
      Hid (wr.ownsRow (w.heap.size + 1) 80 1 av k ps) ∧ Hid (FAtRg wr (fun c => w.heap.size < c ∧ av.ownBlock ≠ some c) D.mir ps) ∧ w.heap.size < wr.heap.size ∧ Below w.heap.size w wr)
    (fun si _ => m - (intOf si).toNat)
  case atStart => exact ⟨0, .nil, kids, [], .slice none 0 0, Nat.zero_le _, rfl, Lib.hid ⟨rfl, rfl⟩, Lib.hid Hok.out.2.1, HC0, hca0, hcf0, Lib.hid (World.ownsRow_nil _ _ _ _), Lib.hid rfl, hXl0, hbA⟩
  case round =>
    clear HC0 hca0 hcf0 hbA hXl0 d3
    obtain ⟨k, D, R, ps, av, hk, rfl, HD, HR, HC, hca, hcf, HO, HF, hXl, hbl⟩ := hrel
    by_cases hlt : k < m
    · obtain ⟨y, kk, nx, rfl⟩ := FRg.behind HD.out Hql.out hlt
      have hfl : kids.flat = D.flat ++ (y :: (kk.flat ++ nx.flat)) := by rw [← HD.out.1, FRg.flat_app]; rfl
      have hsz := congrArg List.length hfl
      simp only [List.length_cons, List.length_append] at hsz
      have hsp := H8.out
      rw [← HD.out.1] at hsp
      obtain ⟨qa, qb, hq1, hq2, hq3⟩ := FAtRg.split hsp
      obtain ⟨p, qb', rfl⟩ := hq3.cons_ps
      obtain ⟨f1, _, b1, rfl⟩ := hq3.head
      have F1 := Lib.hid (f1.below (hbl.trans (drew_below wr)))
      obtain ⟨b2, o2, rfl, r1, r2, r3⟩ := H7.out (by rw [← Hm.out]; omega)
      have rk := r3 k (by rw [← Hm.out]; exact hlt)
      rw [hq1, List.getD_eq_getElem?_getD, List.getElem?_append_right (by rw [hq2, HD.out.2]; exact Nat.le_refl _), hq2, HD.out.2, Nat.sub_self] at rk
      simp only [List.getElem?_cons_zero, Option.getD_some] at rk
      have rk2 := (hbl.cell (by exact r2)).trans rk
      have hD4 : (D.app (.cons y kk .nil)).app nx = kids := by rw [FRg.app_assoc]; exact HD.out.1
      have HD2 : Hid ((D.app (.cons y kk .nil)).app nx = kids ∧ (D.app (.cons y kk .nil)).len = k + 1) := Lib.hid ⟨hD4, by rw [FRg.len_app, HD.out.2]; rfl⟩
      have hR3 := HR.out
      have HR2 := Lib.hid hR3.2.2
      have hyk : (FRg.cons y kk .nil).ok := ⟨hR3.1, hR3.2.1, trivial⟩
      have hkN : kk.flat.length < N := by omega
      have hkN2 : kk.flat.length ≤ 1048576 := by omega
      clear hfl hsz hsp hq1 hq2 hq3 f1 r1 r2 r3 rk hD4 HD hR3 HR
      have hXr : some w.heap.size ≠ av.ownBlock := fun e => by have := HO.out.lt _ e.symm; omega
      go_wp2_with fail
      go_region_law? (first
        | (refine step_append_lies _ (by rfl) _ _ _ (by rfl) (w.heap.size + 1) 80 i0 (.pointer none) 1 8 Tryz.underlying115 hi hz0 hz1 hz2 rfl (by decide) av k ps (by first | rfl | simp [Act.eval, Act.put]) (HO2.out.alloc _) ⟨w2.heap.size, 0, none⟩ 1 1 [.pointer (some ⟨bp, 0, none⟩)] (by first | rfl | simp [Act.eval, Act.put]) rfl (new_cell _ _ _ _ rfl) (by simp [Value.oneCell']) (by decide) (by unfold maxLen; omega) (by omega) (by simp; omega) (w2.heap.size + 1) (by simp) ?_; intro g3 cv w3 hown' hgrow hloc hlt3; have hal2 : (w2.alloc (.cells #[.pointer (some ⟨bp, 0, none⟩)] 80)).heap.size = w2.heap.size + 1 := (by simp); have hX3 : w3.heap[w.heap.size]? = w2.heap[w.heap.size]? := (hgrow.block _ (by rw [hal2]; omega) hXr).trans (((Below.refl w2.heap.size w2).alloc (Nat.le_refl _) _).block _ (by omega)); have c3 := (World.cell?_of_block (a := ⟨w.heap.size, 3, none⟩) hX3).trans c2'; have z3 := (World.frozen?_of_block (a := ⟨w.heap.size, 3, none⟩) hX3).trans z2)
        | (go_simp; go_at_call 54; refine (IH.out y kk hkN b1 _ K hyk hkN2 F1.out).mono ?_; rintro e w2 ⟨bp, rfl, hF2, hb2d⟩; have hb2 : Below wr.heap.size wr w2 := (drew_below wr).trans hb2d; have c2' := (hb2.cell (p := ⟨w.heap.size, 3, none⟩) hXl).trans hca; have z2 := (hb2.frozen (p := ⟨w.heap.size, 3, none⟩) hXl).trans hcf; have HO2 := Lib.hid (ownsRow_below HO.out hb2); have hs2 := hb2.size; have c2a : (w2.alloc (.cells #[.pointer (some ⟨bp, 0, none⟩)] 80)).cell? ⟨w.heap.size, 3, none⟩ = some av := (World.cell?_alloc_lt _ _ _ (by show w.heap.size < _; omega)).trans c2'))
      all_goals
        have hbl2 := below_trans' hbl hb2
        have hs3 := hgrow.size
        rw [hal2] at hs3
        have HF2 : Hid (FAtRg w2 (fun c => w.heap.size < c ∧ av.ownBlock ≠ some c) (FRg.mir (D.app (.cons y kk .nil))) (ps ++ [.pointer (some ⟨bp, 0, none⟩)])) := Lib.hid (by
          rw [FRg.mir_app]
          refine FAtRg.app (HF.out.below hb2) (hF2.mono (Nat.le_refl _) fun c h1 _ => ⟨rfl, by have : wr.heap.size ≤ c := h1; omega, fun e => ?_⟩)
          have := HO.out.lt c e
          have : wr.heap.size ≤ c := h1
          omega)
        have HC3 : Hid (∀ j, j < 3 → (w3.setCell ⟨w.heap.size, 3, none⟩ (.slice (some ⟨g3, 0, none⟩) (k + 1) cv)).cell? ⟨w.heap.size, j, none⟩ = some (rgv x j)) := Lib.hid fun j hj => by
          rw [World.cell?_setCell_other _ _ _ _ (by intro e; have := congrArg Addr.off e; simp only at this; omega)]
          exact (World.cell?_of_block (a := ⟨w.heap.size, j, none⟩) hX3).trans ((hb2.cell (p := ⟨w.heap.size, j, none⟩) hXl).trans (HC.out j hj))
        have hca3 : (w3.setCell ⟨w.heap.size, 3, none⟩ (.slice (some ⟨g3, 0, none⟩) (k + 1) cv)).cell? ⟨w.heap.size, 3, none⟩ = some (.slice (some ⟨g3, 0, none⟩) (k + 1) cv) := World.cell?_setCell_same _ _ _ c3
        have hcf3 : (w3.setCell ⟨w.heap.size, 3, none⟩ (.slice (some ⟨g3, 0, none⟩) (k + 1) cv)).frozen? ⟨w.heap.size, 3, none⟩ = false := by rw [frozen_setCell]; exact z3
        have HO3 : Hid ((w3.setCell ⟨w.heap.size, 3, none⟩ (.slice (some ⟨g3, 0, none⟩) (k + 1) cv)).ownsRow (w.heap.size + 1) 80 1 (.slice (some ⟨g3, 0, none⟩) (k + 1) cv) (k + 1) (ps ++ [.pointer (some ⟨bp, 0, none⟩)])) := Lib.hid (ownsRow_setCell_other hown' _ (Nat.lt_succ_self _) _)
        have hXl3 : w.heap.size < (w3.setCell ⟨w.heap.size, 3, none⟩ (.slice (some ⟨g3, 0, none⟩) (k + 1) cv)).heap.size := by rw [size_setCell]; omega
        have hbl3 : Below w.heap.size w (w3.setCell ⟨w.heap.size, 3, none⟩ (.slice (some ⟨g3, 0, none⟩) (k + 1) cv)) := ((hbl2.alloc hbl2.size _).grown hgrow (by rw [hal2]; omega) (fun j hj => by have := HO2.out.lt j hj; omega)).setCell (Nat.le_refl _) _
        have HF3 : Hid (FAtRg (w3.setCell ⟨w.heap.size, 3, none⟩ (.slice (some ⟨g3, 0, none⟩) (k + 1) cv)) (fun c => w.heap.size < c ∧ (Value.slice (some ⟨g3, 0, none⟩) (k + 1) cv).ownBlock ≠ some c) (FRg.mir (D.app (.cons y kk .nil))) (ps ++ [.pointer (some ⟨bp, 0, none⟩)])) := Lib.hid (by
          refine HF2.out.mono (by rw [size_setCell]; omega) fun c h1 h2 => ⟨?_, h1.1, fun e => ?_⟩
          · rw [Below.heap_setCell _ _ _ _ (by simp only; omega), hgrow.block c (by rw [hal2]; omega) (fun e => h1.2 e.symm)]
            exact ((Below.refl w2.heap.size w2).alloc (Nat.le_refl _) _).block _ h2
          · have e2 : some g3 = some c := e
            rcases hloc with h | h
            · exact h1.2 (h.trans e2)
            · cases e2; omega)
        clear hown' hgrow hloc hX3 HO2 HF2 hbl2 c2' z2 c3 z3 hb2 hb2d hF2 c2a hlt3 hs2 hs3 hal2 HC HO HF hca hcf IH F1
        go_wp2_with fail
        go_roundw
        case rel => exact ⟨k + 1, D.app (.cons y kk .nil), nx, ps ++ [.pointer (some ⟨bp, 0, none⟩)], _, by omega, by go_num, HD2, HR2, HC3, hca3, hcf3, HO3, HF3, hXl3, hbl3⟩
        case measure => simp [intOf] <;> omega
    · have hkm2 : k = m := by omega
      have HE := FRg.done HD.out Hql.out hkm2
      subst HE
      have c0' := (hbl.cell (by exact h2)).trans c0
      by_cases hx1 : x.kind = 1
      · have hr := Hok.out.1
        rw [rarity_two (Or.inl hx1)] at hr
        obtain ⟨y, kk, z, k2, hmir⟩ := FRg.two_of (G := FRg.mir D) (by rw [FRg.len_mir]; omega)
        have hF := HF.out
        rw [hmir] at hF
        have hpl := hF.len
        simp only [FRg.len] at hpl
        obtain ⟨p1, ps1, rfl⟩ := hF.cons_ps
        obtain ⟨f1, f2, b1, rfl⟩ := hF.head
        obtain ⟨p2, ps2, rfl⟩ := f2.cons_ps
        obtain ⟨f2, f3, b2, rfl⟩ := f2.head
        obtain rfl : ps2 = [] := f3
        obtain rfl : k = 2 := by have := Hql.out; omega
        subst hkm2
        have hO := HO.out
        obtain ⟨av2, cv, rfl⟩ := owned_slice hO
        obtain ⟨g, rfl, hg, hcv⟩ := owned_pos hO (by omega)
        have t0 := (hO.cellAt 0 (by omega)).trans (show _ = some (Value.pointer (some ⟨b1, 0, none⟩)) by rfl)
        have t1 := (hO.cellAt 1 (by omega)).trans (show _ = some (Value.pointer (some ⟨b2, 0, none⟩)) by rfl)
        have y0 := hO.frozenAt 0
        have y1 := hO.frozenAt 1
        have hgl := (hO.lt g rfl).2
        have hcm : cv ≤ maxLen := by
          rcases hO.2 with ⟨h, _⟩ | ⟨g', c', cu, e', _, _, _, hm', _⟩
          · cases h
          · cases e'; exact hm'
        have HFF : Hid (FAtRg wr (fun c => w.heap.size < c ∧ (Value.slice (some ⟨g, 0, none⟩) 2 cv).ownBlock ≠ some c) (.cons z k2 (.cons y kk .nil)) [.pointer (some ⟨b2, 0, none⟩), .pointer (some ⟨b1, 0, none⟩)]) := Lib.hid (FAtRg.app f2 f1)
        have hME : FRg.mir (.cons x D .nil) = .cons x (.cons z k2 (.cons y kk .nil)) .nil := by
          simp only [FRg.mir]
          rw [if_pos hx1, hmir]; rfl
        have HME := Lib.hid hME
        rw [hx1] at c0'
        clear hF f1 f2 hO HO HF hmir hME hpl HD HR Hok IH
        go_wp2_with fail
        refine (isR_any b 1 1 _ c0').mono ?_
        rintro e w' ⟨rfl, rfl⟩
        go_wp2_with fail
        refine (reverseP_any g cv b1 b2 _ _ rfl rfl _ hcv t0 t1 y0 y1).mono ?_
        rintro e w4 ⟨rfl, r0, r1, hOn⟩
        have HN := Lib.hid hOn
        have hn4 := hOn.size
        clear hOn
        go_wp2_with fail
        go_ret
        rw [HME.out]
        refine ⟨_, rfl, ⟨w.heap.size, [.pointer (some ⟨b2, 0, none⟩), .pointer (some ⟨b1, 0, none⟩)], .slice (some ⟨g, 0, none⟩) 2 cv, [], rfl, Nat.le_refl _, by omega, fun j hj => (HN.out.cell hXl (by omega)).trans (HC.out j hj), (HN.out.cell hXl (by omega)).trans hca, ⟨_, cv, rfl, hcv, hcm, fun _ => ⟨g, 0, rfl, by omega, by omega, fun i hi => ?_⟩⟩, ?_, rfl⟩, ?_⟩
        · have hc : i = 0 ∨ i = 1 := by simp at hi; omega
          rcases hc with rfl | rfl
          · exact r0
          · exact r1
        · exact HFF.out.mono hn4 fun c h1 h2 => ⟨HN.out.block c h2 fun e => h1.2 e.symm, by omega⟩
        · exact hbl.trans (HN.out.below (by omega) hbl.size)
      · have hkb : decide (x.kind = 1) = false := decide_eq_false hx1
        have HT : Hid (FAtRg wr (fun c => w.heap.size ≤ c) (FRg.mir (.cons x D .nil)) [.pointer (some ⟨w.heap.size, 0, none⟩)]) := Lib.hid (by
          have hF := HF.out
          have hpl := hF.len
          rw [FRg.len_mir, HD.out.2] at hpl
          have hO := ownsRow_ow HO.out (fun i => ps.getD i undef) fun i hi => by rw [List.getD_eq_getElem?_getD, List.getElem?_eq_getElem (by omega)]; rfl
          simp only [FRg.mir]
          rw [if_neg hx1]
          refine ⟨w.heap.size, ps, av, [], rfl, Nat.le_refl _, hXl, HC.out, hca, ?_, hF.mono (Nat.le_refl _) fun c h1 _ => ⟨rfl, by omega⟩, rfl⟩
          obtain ⟨aa, cc, e, q1, q2, q3⟩ := hO
          rw [hpl]
          refine ⟨aa, cc, e, q1, q2, fun h0 => ?_⟩
          obtain ⟨b2, o2, e2, r1, r2, r3⟩ := q3 h0
          exact ⟨b2, o2, e2, by omega, r2, fun i hi => (r3 i (by omega)).1⟩)
        clear HF HC HO HD HR Hok IH
        go_wp2_with fail
        refine (isR_any b 1 x.kind _ c0').mono ?_
        rw [hkb]
        rintro e w' ⟨rfl, rfl⟩
        go_wp2_with fail
        go_ret
        exact ⟨_, rfl, HT.out, hbl⟩
end Go.Proofs.YtcakmchefbohoaaGreatDoor
