/- Contracts: words of a regular expression, by the reference: rows of truth values; a test. -/
import Derived.Test.YtcakmchefbohoaaGreatDoorProg
import Derived.Test.YtcakmchefbohoaaGreatDoorMem
import Derived.Test.YtcakmchefbohoaaGreatDoorMath
import Derived.Test.YtcakmchefbohoaaGreatDoorBasics
import Derived.Test.YtcakmchefbohoaaGreatDoorOpenI
import Derived.Test.YtcakmchefbohoaaGreatDoorHelpI
import Derived.Test.YtcakmchefbohoaaGreatDoorGrid
import Derived.Test.YtcakmchefbohoaaGreatDoorLab
import Derived.Test.YtcakmchefbohoaaGreatDoorEnv
import Derived.Test.YtcakmchefbohoaaGreatDoorRLab
import Derived.Test.YtcakmchefbohoaaGreatDoorDec
import Derived.Test.YtcakmchefbohoaaGreatDoorReg
import Derived.Test.YtcakmchefbohoaaGreatDoorVReg
import Derived.Test.YtcakmchefbohoaaGreatDoorTreeR
import Derived.Test.YtcakmchefbohoaaGreatDoorConc
import Derived.Test.YtcakmchefbohoaaGreatDoorEmp
import Derived.Test.YtcakmchefbohoaaGreatDoorPart
import Derived.Test.YtcakmchefbohoaaGreatDoorSel
import Derived.Test.YtcakmchefbohoaaGreatDoorMwP
import Derived.Test.YtcakmchefbohoaaGreatDoorMwS
import Derived.Test.YtcakmchefbohoaaGreatDoorRgs
import Derived.Test.YtcakmchefbohoaaGreatDoorMwQ
import Derived.Test.YtcakmchefbohoaaGreatDoorModE
import Derived.WalkKit
import Derived.BigQuiet
import Derived.BigRegion
import Derived.Deep.QuietTactic
import Derived.Deep.RegionHeld3
import Derived.Deep.RegionLaw
import Derived.Deep.AppendLies
import Derived.Maps.AppendAt
import Derived.Laws.OwnMore
import Derived.Lib.SliceRun
import Derived.Lib.Hide
import Derived.Outline
set_option linter.unusedVariables false
set_option linter.unusedSimpArgs false
namespace Go.Proofs.YtcakmchefbohoaaGreatDoor
open Go.RowKit

theorem infoBool : (Tryz.prog.info? 4).map (fun i => (i.zero, i.size, i.bytes)) = some (some (.bool false), 1, 1) := by kernel_rfl
def boolsV (T : List Bool) : List Value := T.map Value.bool
theorem boolsV_len (T : List Bool) : (boolsV T).length = T.length := by simp [boolsV]
theorem boolsV_get (T : List Bool) {i : Nat} (h : i < T.length) : (boolsV T)[i]? = some (.bool (bnth T i)) := by
  unfold boolsV bnth
  rw [List.getElem?_map, List.getD_eq_getElem?_getD, List.getElem?_eq_getElem h]; rfl
theorem boolsV_set (T : List Bool) (j : Nat) (b : Bool) : (boolsV T).set j (.bool b) = boolsV (T.set j b) := by simp [boolsV, List.map_set]
theorem bnth_set (T : List Bool) {j : Nat} (b : Bool) (i : Nat) (h : j < T.length) : bnth (T.set j b) i = if i = j then b else bnth T i := by
  unfold bnth
  rw [List.getD_eq_getElem?_getD, List.getD_eq_getElem?_getD, List.getElem?_set]
  by_cases e : i = j
  · subst e; simp [h]
  · rw [if_neg (fun h => e h.symm), if_neg e]
def RdB (w : World) (v : Value) (S : List Bool) : Prop := Rd w 1 v S.length (fun i => .bool (bnth S i))
def OwB (w : World) (base : Nat) (v : Value) (S : List Bool) : Prop := Ow w base 1 v S.length (fun i => .bool (bnth S i))
theorem RdB.below {w w' : World} {v : Value} {S : List Bool} (h : RdB w v S) (hb : Below w.heap.size w w') : RdB w' v S := Rd.below h hb
theorem OwB.rd {w : World} {base : Nat} {v : Value} {S : List Bool} (h : OwB w base v S) : RdB w v S := Ow.rd h
theorem OwB.mono' {w : World} {base base' : Nat} {v : Value} {S : List Bool} (h : OwB w base v S) (hb : base' ≤ base) : OwB w base' v S := Ow.mono h hb
theorem RdB.slice {w : World} {v : Value} {S : List Bool} (h : RdB w v S) : ∃ a cap, v = .slice a S.length cap := by
  obtain ⟨a, cap, e, _⟩ := h
  exact ⟨a, cap, e⟩
theorem own_bool {w : World} {base e n : Nat} {v : Value} {T : List Bool} (h : w.ownsRow base e 1 v n (boolsV T)) : OwB w base v T := by
  have hn : n = T.length := by have := h.1; rw [boolsV_len] at this; omega
  subst hn
  exact ownsRow_ow h _ fun i hi => boolsV_get T (by omega)
theorem made_bool {w : World} {base e n : Nat} {v : Value} (h : w.ownsRow base e 1 v n (List.replicate n (.bool false))) : w.ownsRow base e 1 v n (boolsV (List.replicate n false)) := by
  unfold boolsV
  rw [List.map_replicate]; exact h
theorem bnth_rep (n i : Nat) : bnth (List.replicate n false) i = false := by
  unfold bnth
  rw [List.getD_eq_getElem?_getD, List.getElem?_replicate]
  split <;> rfl
theorem own_store {w : World} {base e g n cap : Nat} {T : List Bool} (h : w.ownsRow base e 1 (.slice (some ⟨g, 0, none⟩) n cap) n (boolsV T)) {j : Nat} (hj : j < n) (b : Bool) : (w.setCell ⟨g, j, none⟩ (.bool b)).ownsRow base e 1 (.slice (some ⟨g, 0, none⟩) n cap) n (boolsV (T.set j b)) := by
  have h2 := (h.stored j (.bool b)).1
  rw [boolsV_set] at h2
  exact h2
/-- The chain of labels, in the reference's memory. -/
def edgeC (i : Nat) : Value := .int .i64 (if i % 3 = 2 then ((i / 3 : Nat) : Int) + 1 else ((i / 3 : Nat) : Int))
structure ChainAt (w : World) (bt : Nat) (L : List ByteArray) : Prop where
  ex : ∃ vL vE, w.cell? ⟨bt, 2, none⟩ = some vL ∧ w.cell? ⟨bt, 3, none⟩ = some vE ∧ RdS w vL L ∧ Rd w 3 vE L.length edgeC
theorem ChainAt.below {w w' : World} {bt : Nat} {L : List ByteArray} (h : ChainAt w bt L) (hb : Below w.heap.size w w') : ChainAt w' bt L := by
  obtain ⟨vL, vE, h1, h2, h3, h4⟩ := h.ex
  exact ⟨vL, vE, (hb.cell (p := ⟨bt, 2, none⟩) (World.block_lt_of_cell? w ⟨bt, 2, none⟩ h1)).trans h1, (hb.cell (p := ⟨bt, 3, none⟩) (World.block_lt_of_cell? w ⟨bt, 3, none⟩ h2)).trans h2, h3.below hb, Rd.below h4 hb⟩
structure LabsOkS (L : List ByteArray) : Prop where
  len : L.length ≤ 64
  lab : ∀ i, i < L.length → (snth L i).size ≤ 1048576
  ok : ∀ i, i < L.length → labOk (snth L i) = true
def EndsS (L : List ByteArray) (x : Rg) (k : FRg) : Prop := ∀ (v vs : Value) (bt : Nat) (S : List Bool) (w : World), RdRg w v (x :: k.flat) → ChainAt w bt L → S.length = L.length + 1 → RdB w vs S →
  Calls Tryz.prog 46 #[v, .pointer (some ⟨bt, 0, none⟩), vs] w fun e w' => ∃ u, e = .returned u ∧ OwB w' w.heap.size u (opX L x (FRg.fold (opX L) k) S) ∧ Below w.heap.size w w'
theorem drwS (w : World) : Below w.heap.size w w.drew := ⟨rfl, rfl, rfl, Nat.le_refl _, fun _ _ => rfl⟩
theorem alcS (w : World) (o : Obj) : Below w.heap.size w (w.alloc o) := (Below.refl _ _).alloc (Nat.le_refl _) _
theorem cell_upS {w w' : World} {b o : Nat} {v : Value} (h : w.cell? ⟨b, o, none⟩ = some v) (hb : Below w.heap.size w w') : w'.cell? ⟨b, o, none⟩ = some v := (hb.cell (p := ⟨b, o, none⟩) (World.block_lt_of_cell? w ⟨b, o, none⟩ h)).trans h
theorem testB_at {L : List ByteArray} {x : Rg} {S : List Bool} {i : Nat} (h : i + 1 < S.length) : bnth (testB L x S) (i + 1) = (bnth S i && selB x.lab x.neg (snth L i)) := by
  unfold testB
  rw [bnth_map _ _ h]
  simp
theorem testB_zero {L : List ByteArray} {x : Rg} {S : List Bool} (h : 0 < S.length) : bnth (testB L x S) 0 = false := by
  unfold testB
  rw [bnth_map _ _ h]
  simp
theorem next_miss {T V : List Bool} {i N : Nat} (h : ∀ j, j < N → bnth T j = (decide (j ≤ i) && bnth V j)) (hv : bnth V (i + 1) = false) : ∀ j, j < N → bnth T j = (decide (j ≤ i + 1) && bnth V j) := by
  intro j hj
  rw [h j hj]
  by_cases e : j = i + 1
  · subst e; rw [hv]; simp
  · have : decide (j ≤ i) = decide (j ≤ i + 1) := decide_eq_decide.2 (by omega)
    rw [this]
theorem next_hit {T V : List Bool} {i N : Nat} (hT : T.length = N) (hi : i + 1 < N) (h : ∀ j, j < N → bnth T j = (decide (j ≤ i) && bnth V j)) (hv : bnth V (i + 1) = true) : ∀ j, j < N → bnth (T.set (i + 1) true) j = (decide (j ≤ i + 1) && bnth V j) := by
  intro j hj
  rw [bnth_set _ _ _ (by omega)]
  by_cases e : j = i + 1
  · subst e; rw [if_pos rfl, hv]; simp
  · rw [if_neg e, h j hj]
    have : decide (j ≤ i) = decide (j ≤ i + 1) := decide_eq_decide.2 (by omega)
    rw [this]
set_option maxRecDepth 100000 in
set_option maxHeartbeats 1600000 in
theorem endsS_test (L : List ByteArray) (x : Rg) (k : FRg) (hk0 : x.kind = 0) (hx : x.lab.size ≤ 1048576) (HL : LabsOkS L) : EndsS L x k := by
  intro v vs bt S w hv hC hS hvs
  have HV := Lib.hid hv
  have HC := Lib.hid hC
  have HVS := Lib.hid hvs
  obtain ⟨i0, hi, hz0, hz1, hz2⟩ := info_parts infoBool
  obtain ⟨a, cap, rfl, hcap, hcm, hv'⟩ := id hv
  obtain ⟨b, o, rfl, hb, g0, g1, g2⟩ := RdRg.cells hv (i := 0) (by simp)
  have e0 : rgnth (x :: k.flat) 0 = x := rfl
  rw [e0] at g0 g1 g2
  rw [Nat.zero_mul, Nat.add_zero] at g0 g1 g2
  rw [hk0] at g0
  obtain ⟨as', cs', rfl⟩ := hvs.slice
  obtain ⟨N, hN⟩ : ∃ N, N = S.length := ⟨_, rfl⟩
  obtain ⟨n, hn⟩ : ∃ n, n = L.length := ⟨_, rfl⟩
  have hN1 : n < N := by omega
  have hN2 : N ≤ n + 1 := by omega
  have hn64 : n ≤ 64 := by have := HL.len; omega
  rw [← hN] at HVS ⊢
  have HN := Lib.hid hN
  have Hn := Lib.hid hn
  obtain ⟨V, hV⟩ : ∃ V, V = testB L x S := ⟨_, rfl⟩
  have HR : Hid (opX L x (FRg.fold (opX L) k) S = V) := Lib.hid (by rw [opX_test hk0, hV])
  rw [HR.out]
  have HVat : Hid (∀ i, i < n → bnth V (i + 1) = (bnth S i && selB x.lab x.neg (snth L i))) := Lib.hid (fun i h => by rw [hV]; exact testB_at (by omega))
  have HV0 : Hid (bnth V 0 = false) := Lib.hid (by rw [hV]; exact testB_zero (by omega))
  have hVl : V.length = N := by rw [hV, testB_len, hN]
  obtain ⟨m, hm⟩ : ∃ m, m = (x :: k.flat).length := ⟨_, rfl⟩
  have hm0 : 0 < m := by rw [hm]; simp
  rw [← hm] at hcap ⊢
  clear hv hv' hC hvs hN hn hV e0 hk0 hm HV
  go_enter Tryz.func46, Tryz.ntmps46
  go_wp2_with (at_make; refine wpList_make_full _ rfl _ _ 77 rfl w.heap.size 4 i0 (.bool false) 1 Tryz.underlying77 hi hz0 hz1 _ _ _ _ N rfl rfl rfl rfl ?b2 ?b3 (Nat.le_refl _) ?_)
  case b2 => first | omega | (rw [hz2]; omega)
  case b3 => unfold maxLen; omega
  intro w0 hown0 hgrow0
  rw [toList_madeCells_one] at hown0
  have hb0 : Below w.heap.size w w0 := (Below.refl _ _).grown hgrow0 (Nat.le_refl _) (fun k h => by cases h)
  have HO0 := Lib.hid (made_bool hown0)
  have p0 := cell_upS g0 hb0
  clear hown0 hgrow0
  go_wp2_with fail
  go_loopw [8] (fun si wr => ∃ (i : Nat) (T : List Bool), i ≤ n ∧ si = .int .i64 i ∧ T.length = N ∧ Hid (∀ j, j < N → bnth T j = (decide (j ≤ i) && bnth V j)) ∧ Hid (wr.ownsRow w.heap.size 4 1 (.slice (some ⟨w.heap.size, 0, none⟩) N N) N (boolsV T)) ∧ Below w.heap.size w wr) (fun si _ => n - (intOf si).toNat)
  case atStart => exact ⟨0, List.replicate N false, Nat.zero_le _, rfl, by simp, Lib.hid (fun j hj => by
    rw [bnth_rep]
    by_cases e : j = 0
    · subst e; rw [HV0.out]; rfl
    · rw [decide_eq_false (by omega)]; rfl), HO0, hb0⟩
  case round =>
    clear HO0 hb0 p0
    obtain ⟨i, T, hin, rfl, hTl, HT, HO, hbl⟩ := hrel
    obtain ⟨vL, vE, c2, c3, hL, hE⟩ := (HC.out.below hbl).ex
    obtain ⟨al, cl, rfl⟩ := hL.slice
    obtain ⟨aE, cE, rfl, hcE, hmE, hE3⟩ := hE
    rw [← Hn.out] at c2 c3 hcE hE3
    by_cases hlt : i < n
    · obtain ⟨be, oe, rfl, hbe, hce⟩ := hE3 (by omega)
      have x0 : wr.cell? ⟨be, oe + i * 3, none⟩ = some (.int .i64 (i : Int)) := by
        have := hce (i * 3) (by omega)
        rw [this]; unfold edgeC
        rw [if_neg (by omega), show i * 3 / 3 = i by omega]
      have x1 : wr.cell? ⟨be, oe + i * 3 + 1, none⟩ = some (.int .i64 (i : Int)) := by
        have := hce (i * 3 + 1) (by omega)
        rw [show oe + i * 3 + 1 = oe + (i * 3 + 1) by omega, this]; unfold edgeC
        rw [if_neg (by omega), show (i * 3 + 1) / 3 = i by omega]
      have x2 : wr.cell? ⟨be, oe + i * 3 + 2, none⟩ = some (.int .i64 ((i : Int) + 1)) := by
        have := hce (i * 3 + 2) (by omega)
        rw [show oe + i * 3 + 2 = oe + (i * 3 + 2) by omega, this]; unfold edgeC
        rw [if_pos (by omega), show (i * 3 + 2) / 3 = i by omega]
      have hvx := HVS.out.below hbl
      unfold RdB at hvx
      rw [← HN.out] at hvx
      obtain ⟨a', c', e', _, _, hs3⟩ := hvx
      cases e'
      obtain ⟨bs, os, rfl, hbs, hcs⟩ := hs3 (by omega)
      have y0 : wr.cell? ⟨bs, os + i, none⟩ = some (.bool (bnth S i)) := hcs i (by omega)
      have Hat := Lib.hid (HVat.out i hlt)
      clear hE3 hce hs3 hcs
      cases hsi : bnth S i with
      | false =>
        rw [hsi] at y0
        have hvm : Hid (bnth V (i + 1) = false) := Lib.hid (by rw [Hat.out, hsi]; rfl)
        have yB := cell_upS y0 (alcS wr (.cells #[.int .i64 (i : Int), .int .i64 (i : Int), .int .i64 ((i : Int) + 1)] 76))
        have z0 : (wr.alloc (.cells #[.int .i64 (i : Int), .int .i64 (i : Int), .int .i64 ((i : Int) + 1)] 76)).cell? ⟨wr.heap.size, 0, none⟩ = some (.int .i64 (i : Int)) := by rw [cell_of_row _ _ _ _ _ _ (heap_alloc_new wr _)]; rfl
        clear hsi Hat hL
        go_wp2_with fail
        go_region
        go_wp2_with fail
        go_roundw
        case rel => exact ⟨i + 1, T, by omega, by go_num, hTl, Lib.hid (next_miss HT.out hvm.out), Lib.hid (ownsRow_below HO.out ((alcS wr _).drew)), (hbl.alloc hbl.size _).drew⟩
        case measure => simp [intOf] <;> omega
      | true =>
        rw [hsi] at y0
        have hiL : i < L.length := by rw [← Hn.out]; exact hlt
        have hsl := HL.lab i hiL
        have hslo := HL.ok i hiL
        obtain ⟨a2, c2', e2, _, _, hl3⟩ := hL
        cases e2
        obtain ⟨bl, ol, rfl, hbl', hcl⟩ := hl3 (by omega)
        have y6 : wr.cell? ⟨bl, ol + i, none⟩ = some (.string (snth L i)) := hcl i (by omega)
        have hbB := alcS wr (.cells #[.int .i64 (i : Int), .int .i64 (i : Int), .int .i64 ((i : Int) + 1)] 76)
        have t1 := cell_upS (cell_upS g1 hbl) hbB
        have t2 := cell_upS (cell_upS g2 hbl) hbB
        have t3 := cell_upS c2 hbB
        have t6 := cell_upS y6 hbB
        have t7 := cell_upS y0 hbB
        have t4 : (wr.alloc (.cells #[.int .i64 (i : Int), .int .i64 (i : Int), .int .i64 ((i : Int) + 1)] 76)).cell? ⟨wr.heap.size, 0, none⟩ = some (.int .i64 (i : Int)) := by rw [cell_of_row _ _ _ _ _ _ (heap_alloc_new wr _)]; rfl
        have t5 : (wr.alloc (.cells #[.int .i64 (i : Int), .int .i64 (i : Int), .int .i64 ((i : Int) + 1)] 76)).cell? ⟨wr.heap.size, 1, none⟩ = some (.int .i64 (i : Int)) := by rw [cell_of_row _ _ _ _ _ _ (heap_alloc_new wr _)]; rfl
        have t8 : (wr.alloc (.cells #[.int .i64 (i : Int), .int .i64 (i : Int), .int .i64 ((i : Int) + 1)] 76)).cell? ⟨wr.heap.size, 2, none⟩ = some (.int .i64 ((i : Int) + 1)) := by rw [cell_of_row _ _ _ _ _ _ (heap_alloc_new wr _)]; rfl
        have hbD := drwS (wr.alloc (.cells #[.int .i64 (i : Int), .int .i64 (i : Int), .int .i64 ((i : Int) + 1)] 76))
        have Hsi := Lib.hid hsi
        have hIN : (i : Int) < (N : Int) := by omega
        have hIN0 : (0 : Int) ≤ (i : Int) := by omega
        clear hsi hl3 hcl
        cases hsel : selB x.lab x.neg (snth L i) with
        | true =>
          have hvm : Hid (bnth V (i + 1) = true) := Lib.hid (by rw [Hat.out, Hsi.out, hsel]; rfl)
          go_wp2_with fail
          go_region_held3 (fun W => Below (wr.alloc (.cells #[.int .i64 (i : Int), .int .i64 (i : Int), .int .i64 ((i : Int) + 1)] 76)).heap.size (wr.alloc (.cells #[.int .i64 (i : Int), .int .i64 (i : Int), .int .i64 ((i : Int) + 1)] 76)) W ∧ W.cell? ⟨b, o + 1, none⟩ = some (.string x.lab) ∧ W.cell? ⟨b, o + 2, none⟩ = some (.bool x.neg) ∧ W.cell? ⟨bt, 2, none⟩ = some (.slice (some ⟨bl, ol, none⟩) n cl) ∧ W.cell? ⟨wr.heap.size, 0, none⟩ = some (.int .i64 (i : Int)) ∧ W.cell? ⟨wr.heap.size, 1, none⟩ = some (.int .i64 (i : Int)) ∧ W.cell? ⟨bl, ol + i, none⟩ = some (.string (snth L i)) ∧ W.cell? ⟨bs, os + i, none⟩ = some (.bool true) ∧ W.cell? ⟨wr.heap.size, 2, none⟩ = some (.int .i64 ((i : Int) + 1))) ((first | exact hS2 | exact ⟨hbD, cell_upS t1 hbD, cell_upS t2 hbD, cell_upS t3 hbD, cell_upS t4 hbD, cell_upS t5 hbD, cell_upS t6 hbD, cell_upS t7 hbD, cell_upS t8 hbD⟩)) ((first | (go_at_call 77; refine (l14Selects_any x.lab x.neg (snth L i) _ hx hsl hslo).mono ?_; rw [hsel]; rintro e w2 ⟨rfl, hb2⟩; have hb2r := below_trans' hbD hb2; have hS2 : (fun W => Below (wr.alloc (.cells #[.int .i64 (i : Int), .int .i64 (i : Int), .int .i64 ((i : Int) + 1)] 76)).heap.size (wr.alloc (.cells #[.int .i64 (i : Int), .int .i64 (i : Int), .int .i64 ((i : Int) + 1)] 76)) W ∧ W.cell? ⟨b, o + 1, none⟩ = some (.string x.lab) ∧ W.cell? ⟨b, o + 2, none⟩ = some (.bool x.neg) ∧ W.cell? ⟨bt, 2, none⟩ = some (.slice (some ⟨bl, ol, none⟩) n cl) ∧ W.cell? ⟨wr.heap.size, 0, none⟩ = some (.int .i64 (i : Int)) ∧ W.cell? ⟨wr.heap.size, 1, none⟩ = some (.int .i64 (i : Int)) ∧ W.cell? ⟨bl, ol + i, none⟩ = some (.string (snth L i)) ∧ W.cell? ⟨bs, os + i, none⟩ = some (.bool true) ∧ W.cell? ⟨wr.heap.size, 2, none⟩ = some (.int .i64 ((i : Int) + 1))) w2 := ⟨hb2r, cell_upS t1 hb2r, cell_upS t2 hb2r, cell_upS t3 hb2r, cell_upS t4 hb2r, cell_upS t5 hb2r, cell_upS t6 hb2r, cell_upS t7 hb2r, cell_upS t8 hb2r⟩) | fail))
          have HO2 := Lib.hid (ownsRow_below HO.out (below_trans' hbB hb2r))
          have hbl2 := below_trans' (below_trans' hbl hbB) hb2r
          have u8 := cell_upS t8 hb2r
          have o1 := (HO2.out.cellAt (i + 1) (by omega)).trans (boolsV_get T (by omega))
          have o2 := HO2.out.frozenAt (i + 1)
          have hI : (i : Int) + 1 < (N : Int) := by omega
          clear hS2 hb2 hb2r hbD t1 t2 t3 t4 t5 t6 t7 t8 hsel hbB hbl
          go_wp2_with fail
          go_roundw
          case rel => exact ⟨i + 1, T.set (i + 1) true, by omega, by go_num, by simp; exact hTl, Lib.hid (next_hit hTl (by omega) HT.out hvm.out), Lib.hid (own_store HO2.out (by omega) true), hbl2.setCell (Nat.le_refl _) _⟩
          case measure => simp [intOf] <;> omega
        | false =>
          have hvm : Hid (bnth V (i + 1) = false) := Lib.hid (by rw [Hat.out, Hsi.out, hsel]; rfl)
          go_wp2_with fail
          go_region_held3 (fun W => Below (wr.alloc (.cells #[.int .i64 (i : Int), .int .i64 (i : Int), .int .i64 ((i : Int) + 1)] 76)).heap.size (wr.alloc (.cells #[.int .i64 (i : Int), .int .i64 (i : Int), .int .i64 ((i : Int) + 1)] 76)) W ∧ W.cell? ⟨b, o + 1, none⟩ = some (.string x.lab) ∧ W.cell? ⟨b, o + 2, none⟩ = some (.bool x.neg) ∧ W.cell? ⟨bt, 2, none⟩ = some (.slice (some ⟨bl, ol, none⟩) n cl) ∧ W.cell? ⟨wr.heap.size, 0, none⟩ = some (.int .i64 (i : Int)) ∧ W.cell? ⟨wr.heap.size, 1, none⟩ = some (.int .i64 (i : Int)) ∧ W.cell? ⟨bl, ol + i, none⟩ = some (.string (snth L i)) ∧ W.cell? ⟨bs, os + i, none⟩ = some (.bool true) ∧ W.cell? ⟨wr.heap.size, 2, none⟩ = some (.int .i64 ((i : Int) + 1))) ((first | exact hS2 | exact ⟨hbD, cell_upS t1 hbD, cell_upS t2 hbD, cell_upS t3 hbD, cell_upS t4 hbD, cell_upS t5 hbD, cell_upS t6 hbD, cell_upS t7 hbD, cell_upS t8 hbD⟩)) ((first | (go_at_call 77; refine (l14Selects_any x.lab x.neg (snth L i) _ hx hsl hslo).mono ?_; rw [hsel]; rintro e w2 ⟨rfl, hb2⟩; have hb2r := below_trans' hbD hb2; have hS2 : (fun W => Below (wr.alloc (.cells #[.int .i64 (i : Int), .int .i64 (i : Int), .int .i64 ((i : Int) + 1)] 76)).heap.size (wr.alloc (.cells #[.int .i64 (i : Int), .int .i64 (i : Int), .int .i64 ((i : Int) + 1)] 76)) W ∧ W.cell? ⟨b, o + 1, none⟩ = some (.string x.lab) ∧ W.cell? ⟨b, o + 2, none⟩ = some (.bool x.neg) ∧ W.cell? ⟨bt, 2, none⟩ = some (.slice (some ⟨bl, ol, none⟩) n cl) ∧ W.cell? ⟨wr.heap.size, 0, none⟩ = some (.int .i64 (i : Int)) ∧ W.cell? ⟨wr.heap.size, 1, none⟩ = some (.int .i64 (i : Int)) ∧ W.cell? ⟨bl, ol + i, none⟩ = some (.string (snth L i)) ∧ W.cell? ⟨bs, os + i, none⟩ = some (.bool true) ∧ W.cell? ⟨wr.heap.size, 2, none⟩ = some (.int .i64 ((i : Int) + 1))) w2 := ⟨hb2r, cell_upS t1 hb2r, cell_upS t2 hb2r, cell_upS t3 hb2r, cell_upS t4 hb2r, cell_upS t5 hb2r, cell_upS t6 hb2r, cell_upS t7 hb2r, cell_upS t8 hb2r⟩) | fail))
          have HO2 := Lib.hid (ownsRow_below HO.out (below_trans' hbB hb2r))
          have hbl2 := below_trans' (below_trans' hbl hbB) hb2r
          clear hS2 hb2 hb2r hbD t1 t2 t3 t4 t5 t6 t7 t8 hsel hbB hbl
          go_wp2_with fail
          go_roundw
          case rel => exact ⟨i + 1, T, by omega, by go_num, hTl, Lib.hid (next_miss HT.out hvm.out), HO2, hbl2⟩
          case measure => simp [intOf] <;> omega
    · obtain rfl : i = n := by omega
      have HRes : Hid (OwB wr w.heap.size (.slice (some ⟨w.heap.size, 0, none⟩) N N) V) := Lib.hid (by
        have e : T = V := bl_ext (by omega) fun j hj => by rw [HT.out j (by omega), decide_eq_true (by omega)]; simp
        rw [← e]; exact own_bool HO.out)
      clear hL hE3
      go_wp2_with fail
      go_ret
      exact ⟨_, rfl, HRes.out, hbl⟩
end Go.Proofs.YtcakmchefbohoaaGreatDoor
