/- Contracts: the walk of AlternationDepth, of the program and of the reference. -/
import Derived.Test.YtmaadfoiaegdjaaGreatDoorProg
import Derived.Test.YtmaadfoiaegdjaaGreatDoorMem
import Derived.Test.YtmaadfoiaegdjaaGreatDoorMath
import Derived.Test.YtmaadfoiaegdjaaGreatDoorBasics
import Derived.Test.YtmaadfoiaegdjaaGreatDoorOpenI
import Derived.Test.YtmaadfoiaegdjaaGreatDoorHelpI
import Derived.Test.YtmaadfoiaegdjaaGreatDoorGrid
import Derived.Test.YtmaadfoiaegdjaaGreatDoorLab
import Derived.Test.YtmaadfoiaegdjaaGreatDoorDec
import Derived.Test.YtmaadfoiaegdjaaGreatDoorEnv
import Derived.Test.YtmaadfoiaegdjaaGreatDoorNode
import Derived.Test.YtmaadfoiaegdjaaGreatDoorNodeW
import Derived.Test.YtmaadfoiaegdjaaGreatDoorVMod
import Derived.Test.YtmaadfoiaegdjaaGreatDoorEnd
import Derived.Test.YtmaadfoiaegdjaaGreatDoorBind
import Derived.Test.YtmaadfoiaegdjaaGreatDoorVFor
import Derived.Test.YtmaadfoiaegdjaaGreatDoorConc
import Derived.Test.YtmaadfoiaegdjaaGreatDoorNds
import Derived.Test.YtmaadfoiaegdjaaGreatDoorFreq
import Derived.Test.YtmaadfoiaegdjaaGreatDoorInst
import Derived.Test.YtmaadfoiaegdjaaGreatDoorUnf
import Derived.Test.YtmaadfoiaegdjaaGreatDoorUses
import Derived.WalkKit
import Derived.BigRegion
import Derived.Deep.RegionHeld3
import Derived.StillTailTactics
import Derived.Deep.QuietTactic
import Derived.BigQuiet
import Derived.Maps.AppendAt
import Derived.Laws.OwnMore
import Derived.Lib.Hide
import Derived.Outline
set_option linter.unusedVariables false
set_option linter.unusedSimpArgs false
namespace Go.Proofs.YtmaadfoiaegdjaaGreatDoor
open Go.RowKit

theorem uses_r (v : Value) (f : List Nd) (k x : Nat) (r : Bool) (w : World) (hr : usesB f k x = r) (hn : f.length ≤ 1048576) (hs : shapeN f = true) (hkf : k < f.length) (hx : x < 1048576) (hv : RdNd w v f) :
    Calls Tryz.prog 117 #[v, .int .i64 k, .int .i64 x] w fun e w' => e = .returned (.bool r) ∧ Below w.heap.size w w' := by
  rw [← hr]; exact uses_any v f k x w hn hs hkf hx hv
set_option maxRecDepth 100000 in
set_option maxHeartbeats 8000000 in
theorem alternation_aux (v : Value) (f : List Nd) (hn : f.length ≤ 1048576) (hs : shapeN f = true) (hkd : ∀ i, i < f.length → inR (ndnth f i).kind 0 8 = true) :
    ∀ (N k : Nat) (w : World), N ≤ 1048576 → f.length - k ≤ N → k < f.length → RdNd w v f →
    Calls Tryz.prog 90 #[v, .int .i64 k] w fun e w' => e = .returned (.int .i64 (altF f N k : Nat)) ∧ Below w.heap.size w w' := by
  intro N
  induction N with
  | zero => intro k w _ h1 h2; omega
  | succ N ihN => ?_
  intro k w hN hkN hkf hv
  have IH := Lib.hid ihN
  clear ihN
  have HV := Lib.hid hv
  have HS := Lib.hid hs
  have HK := Lib.hid hkd
  obtain ⟨a, cap, rfl, hcap, hcm, _⟩ := hv
  unfold maxLen at hcm
  obtain ⟨n, hxn⟩ : ∃ n, n = f.length := ⟨_, rfl⟩
  obtain ⟨E, hE⟩ : ∃ E, E = endN f k := ⟨_, rfl⟩
  have hel := endN_le f k
  rw [← hE, ← hxn] at hel
  have hU : Hid (altF f (N + 1) k = 1 + alTo (altF f N) f k (E - (k + 1))) := Lib.hid (by rw [hE]; rfl)
  rw [← hxn] at hcap HV
  rw [← hxn]
  have Hxn := Lib.hid hxn
  have HE := Lib.hid hE
  have hkn : k < n := by omega
  have hnm : n ≤ 1048576 := by omega
  have hkm : k < 1048576 := by omega
  have HkN : Hid (∀ i, k < i → i < f.length → f.length - i ≤ N) := Lib.hid (fun i h1 h2 => by omega)
  have HB : Hid (∀ d, alTo (altF f N) f k d ≤ N) := Lib.hid fun d => alTo_le (altF_le f N) d
  have hN1 : N ≤ 1048575 := by omega
  clear hxn hE hs hkd hkN hN
  go_enter Tryz.func90, Tryz.ntmps90
  go_wp2_with fail
  go_loopw [5, 6] (fun so si wr => ∃ d : Nat, d ≤ E - (k + 1) ∧ si = .int .i64 ((k + 1 + d : Nat) : Int) ∧ so = .int .i64 ((alTo (altF f N) f k d : Nat) : Int) ∧ Below w.heap.size w wr) (fun _ si _ => E - (intOf si).toNat)
  case atStart => exact ⟨0, Nat.zero_le _, by simp, by rfl, Below.refl _ _⟩
  case round =>
    obtain ⟨d, hd, rfl, rfl, hbl⟩ := hrel
    obtain ⟨i, hi⟩ : ∃ i, i = k + 1 + d := ⟨_, rfl⟩
    rw [← hi]
    have hd2 : i < E → d + 1 ≤ E - (k + 1) := by omega
    have hd3 : ¬ i < E → d = E - (k + 1) := by omega
    have Hd2 := Lib.hid hd2
    have Hd3 := Lib.hid hd3
    have HA : Hid (alTo (altF f N) f k (d + 1) = if alC f k i = true then max (alTo (altF f N) f k d) (altF f N i) else alTo (altF f N) f k d) := Lib.hid (by rw [hi]; rfl)
    have HP : Hid (alC f k i = (isFix (ndnth f i).kind && decide ((ndnth f i).kind ≠ (ndnth f k).kind) && usesB f i k)) := Lib.hid rfl
    have hi1 : i + 1 = k + 1 + (d + 1) := by omega
    have Hi1 := Lib.hid hi1
    have hki : k < i := by omega
    have him : i ≤ 1048577 + E := by omega
    have hMl := HB.out d
    obtain ⟨M, hM⟩ : ∃ M, M = alTo (altF f N) f k d := ⟨_, rfl⟩
    rw [← hM] at HA hMl ⊢
    have HM := Lib.hid hM
    clear hi hd2 hd3 hd hi1 hM
    by_cases hiE : i < E
    · have hif : i < f.length := by have := Hxn.out; omega
      have hin : i < n := by omega
      obtain ⟨b, o, rfl, hb, g0, g1, g2, g3⟩ := RdNd.cells HV.out hif
      obtain ⟨b', o', he, _, p0, _, _, _⟩ := RdNd.cells HV.out hkf
      cases he
      have hid : decide ((i : Int) < (E : Int)) = true := decide_eq_true (by omega)
      have hIH : ∀ W, RdNd W (.slice (some ⟨b, o, none⟩) n cap) f → Calls Tryz.prog 90 #[.slice (some ⟨b, o, none⟩) n cap, .int .i64 i] W fun e w' => e = .returned (.int .i64 (altF f N i : Nat)) ∧ Below W.heap.size W w' := by
        intro W h
        rw [Hxn.out] at h ⊢
        exact IH.out i W (by omega) (HkN.out i hki hif) hif h
      have hXl := altF_le f N i
      obtain ⟨X, hX⟩ : ∃ X, X = altF f N i := ⟨_, rfl⟩
      rw [← hX] at HA hIH hXl
      have HIH := Lib.hid hIH
      obtain ⟨Y, hY⟩ : ∃ Y, Y = ndnth f i := ⟨_, rfl⟩
      obtain ⟨Z, hZ⟩ : ∃ Z, Z = ndnth f k := ⟨_, rfl⟩
      rw [← hY] at g0 g1 g2 g3 HP
      rw [← hZ] at p0 HP
      clear hY hZ hIH hX
      cases hfx : isFix Y.kind with
      | false =>
        have HA2 : Hid (alTo (altF f N) f k (d + 1) = M) := Lib.hid (by rw [HA.out, if_neg (by rw [HP.out, hfx]; simp)])
        go_wp2_with fail
        refine (formulaEnd_e _ f k E _ HE.out hn HS.out hkf (HV.out.below hbl)).mono ?_
        rintro e W0 ⟨rfl, hb1⟩
        have hblW := below_trans' hbl hb1
        clear hb1
        have q0 := (hblW.cell (by exact hb)).trans g0
        have q1 := (hblW.cell (by exact hb)).trans g1
        have q2 := (hblW.cell (by exact hb)).trans g2
        have q3 := (hblW.cell (by exact hb)).trans g3
        have r0 := (hblW.cell (by exact hb)).trans p0
        have hbW : b < W0.heap.size := Nat.lt_of_lt_of_le hb hblW.size
        have hd0 : Below W0.heap.size W0 W0.drew := Below.drew (Below.refl _ _)
        go_wp2_with fail
        refine wp_region_held_drew (S := fun W => Below W0.heap.size W0 W ∧ W.cell? ⟨b, o + i * 4, none⟩ = some (.int .i64 Y.kind) ∧ W.cell? ⟨b, o + i * 4 + 1, none⟩ = some (.int .i64 Y.var) ∧ W.cell? ⟨b, o + i * 4 + 2, none⟩ = some (.string Y.lab) ∧ W.cell? ⟨b, o + i * 4 + 3, none⟩ = some (.bool Y.neg) ∧ W.cell? ⟨b, o + k * 4, none⟩ = some (.int .i64 Z.kind)) (by kernel_rfl) ⟨hd0, q0, q1, q2, q3, r0⟩ (fun hHeld => ?_)
        refine wpAnyH_take (i := 0) (v := ?v0) rfl (by kernel_rfl) (by kernel_rfl) (by kernel_rfl) (fun _ _ _ h => h) (Or.inl ⟨by rfl, ?h0⟩) (by assumption) ?_
        case h0 => (intro w hSw; (try dsimp only at hSw); go_simp <;> (try with_reducible rfl))
        try simp only [Act.put, List.setIfInBounds_toArray, List.set_cons_zero, List.set_cons_succ, List.getElem_toArray, List.getElem_cons_zero, List.getElem_cons_succ]
        refine wpAnyH_take (i := 1) (v := ?v1) rfl (by kernel_rfl) (by kernel_rfl) (by kernel_rfl) (fun _ _ _ h => h) (Or.inl ⟨by rfl, ?h1⟩) (by assumption) ?_
        case h1 => (intro w hSw; (try dsimp only at hSw); go_simp <;> (try with_reducible rfl))
        try simp only [Act.put, List.setIfInBounds_toArray, List.set_cons_zero, List.set_cons_succ, List.getElem_toArray, List.getElem_cons_zero, List.getElem_cons_succ]
        refine wpAnyH_take (i := 2) (v := ?v2) rfl (by kernel_rfl) (by kernel_rfl) (by kernel_rfl) (fun _ _ _ h => h) (Or.inl ⟨by rfl, ?h2⟩) (by assumption) ?_
        case h2 => (intro w hSw; (try dsimp only at hSw); go_simp <;> (try with_reducible rfl))
        try simp only [Act.put, List.setIfInBounds_toArray, List.set_cons_zero, List.set_cons_succ, List.getElem_toArray, List.getElem_cons_zero, List.getElem_cons_succ]
        refine wpAnyH_take (i := 3) (v := ?v3) rfl (by kernel_rfl) (by kernel_rfl) (by kernel_rfl) (fun _ _ _ h => h) (Or.inl ⟨by rfl, ?h3⟩) (by assumption) ?_
        case h3 => (intro w hSw; (try dsimp only at hSw); go_simp <;> (try with_reducible rfl))
        try simp only [Act.put, List.setIfInBounds_toArray, List.set_cons_zero, List.set_cons_succ, List.getElem_toArray, List.getElem_cons_zero, List.getElem_cons_succ]
        refine wpAnyH_ready (rs := [4]) (by kernel_rfl) (by simp) ?_
        refine AllReadyH.cons rfl (fun K hK => ?_) (AllReadyH.nil)
        go_simp
        (go_at_call 89; refine (isFixed_r _ _ _ _ false _ hfx).mono ?_; rintro e w1 ⟨rfl, hbz⟩)
        dsimp only
        refine hK.out _ _ ?_ (fun hHeld2 => ?_)
        · try dsimp only
          exact held_step (by assumption) (by assumption) hbW
        clear hK K
        try simp only [Act.put, List.setIfInBounds_toArray, List.set_cons_zero, List.set_cons_succ, List.getElem_toArray, List.getElem_cons_zero, List.getElem_cons_succ]
        refine wpAnyH_take (i := 5) (v := .bool false) rfl (by kernel_rfl) (by kernel_rfl) (by kernel_rfl) (fun _ _ _ h => h) (Or.inl ⟨by rfl, ?h5⟩) (by assumption) ?_
        case h5 => (intro w hSw; (try dsimp only at hSw); go_simp <;> (try with_reducible rfl))
        try simp only [Act.put, List.setIfInBounds_toArray, List.set_cons_zero, List.set_cons_succ, List.getElem_toArray, List.getElem_cons_zero, List.getElem_cons_succ]
        refine wpAnyH_take (i := 6) rfl (by kernel_rfl) (by kernel_rfl) (by kernel_rfl) (fun _ _ _ h => h) (Or.inr ⟨by rfl, rfl⟩) (by assumption) ?_
        try simp only [Act.put, List.setIfInBounds_toArray, List.set_cons_zero, List.set_cons_succ, List.getElem_toArray, List.getElem_cons_zero, List.getElem_cons_succ]
        refine wpAnyH_take (i := 7) rfl (by kernel_rfl) (by kernel_rfl) (by kernel_rfl) (fun _ _ _ h => h) (Or.inr ⟨by rfl, rfl⟩) (by assumption) ?_
        try simp only [Act.put, List.setIfInBounds_toArray, List.set_cons_zero, List.set_cons_succ, List.getElem_toArray, List.getElem_cons_zero, List.getElem_cons_succ]
        refine wpAnyH_take (i := 8) rfl (by kernel_rfl) (by kernel_rfl) (by kernel_rfl) (fun _ _ _ h => h) (Or.inr ⟨by rfl, rfl⟩) (by assumption) ?_
        try simp only [Act.put, List.setIfInBounds_toArray, List.set_cons_zero, List.set_cons_succ, List.getElem_toArray, List.getElem_cons_zero, List.getElem_cons_succ]
        refine wpAnyH_take (i := 9) rfl (by kernel_rfl) (by kernel_rfl) (by kernel_rfl) (fun _ _ _ h => h) (Or.inr ⟨by rfl, rfl⟩) (by assumption) ?_
        try simp only [Act.put, List.setIfInBounds_toArray, List.set_cons_zero, List.set_cons_succ, List.getElem_toArray, List.getElem_cons_zero, List.getElem_cons_succ]
        refine wpAnyH_take (i := 10) rfl (by kernel_rfl) (by kernel_rfl) (by kernel_rfl) (fun _ _ _ h => h) (Or.inr ⟨by rfl, rfl⟩) (by assumption) ?_
        try simp only [Act.put, List.setIfInBounds_toArray, List.set_cons_zero, List.set_cons_succ, List.getElem_toArray, List.getElem_cons_zero, List.getElem_cons_succ]
        refine wpAnyH_take (i := 11) rfl (by kernel_rfl) (by kernel_rfl) (by kernel_rfl) (fun _ _ _ h => h) (Or.inr ⟨by rfl, rfl⟩) (by assumption) ?_
        try simp only [Act.put, List.setIfInBounds_toArray, List.set_cons_zero, List.set_cons_succ, List.getElem_toArray, List.getElem_cons_zero, List.getElem_cons_succ]
        refine wpAnyH_take (i := 12) rfl (by kernel_rfl) (by kernel_rfl) (by kernel_rfl) (fun _ _ _ h => h) (Or.inr ⟨by rfl, rfl⟩) (by assumption) ?_
        try simp only [Act.put, List.setIfInBounds_toArray, List.set_cons_zero, List.set_cons_succ, List.getElem_toArray, List.getElem_cons_zero, List.getElem_cons_succ]
        refine wpAnyH_take (i := 13) rfl (by kernel_rfl) (by kernel_rfl) (by kernel_rfl) (fun _ _ _ h => h) (Or.inr ⟨by rfl, rfl⟩) (by assumption) ?_
        try simp only [Act.put, List.setIfInBounds_toArray, List.set_cons_zero, List.set_cons_succ, List.getElem_toArray, List.getElem_cons_zero, List.getElem_cons_succ]
        refine wpAnyH_take (i := 14) rfl (by kernel_rfl) (by kernel_rfl) (by kernel_rfl) (fun _ _ _ h => h) (Or.inr ⟨by rfl, rfl⟩) (by assumption) ?_
        try simp only [Act.put, List.setIfInBounds_toArray, List.set_cons_zero, List.set_cons_succ, List.getElem_toArray, List.getElem_cons_zero, List.getElem_cons_succ]
        refine wpAnyH_take (i := 15) rfl (by kernel_rfl) (by kernel_rfl) (by kernel_rfl) (fun _ _ _ h => h) (Or.inr ⟨by rfl, rfl⟩) (by assumption) ?_
        try simp only [Act.put, List.setIfInBounds_toArray, List.set_cons_zero, List.set_cons_succ, List.getElem_toArray, List.getElem_cons_zero, List.getElem_cons_succ]
        refine wpAnyH_take (i := 16) rfl (by kernel_rfl) (by kernel_rfl) (by kernel_rfl) (fun _ _ _ h => h) (Or.inr ⟨by rfl, rfl⟩) (by assumption) ?_
        try simp only [Act.put, List.setIfInBounds_toArray, List.set_cons_zero, List.set_cons_succ, List.getElem_toArray, List.getElem_cons_zero, List.getElem_cons_succ]
        refine wpAnyH_take (i := 17) (v := .bool false) rfl (by kernel_rfl) (by kernel_rfl) (by kernel_rfl) (fun _ _ _ h => h) (Or.inl ⟨by rfl, ?h17⟩) (by assumption) ?_
        case h17 => (intro w hSw; (try dsimp only at hSw); go_simp <;> (try with_reducible rfl))
        try simp only [Act.put, List.setIfInBounds_toArray, List.set_cons_zero, List.set_cons_succ, List.getElem_toArray, List.getElem_cons_zero, List.getElem_cons_succ]
        refine wpAnyH_take (i := 18) (v := .bool false) rfl (by kernel_rfl) (by kernel_rfl) (by kernel_rfl) (fun _ _ _ h => h) (Or.inl ⟨by rfl, ?h18⟩) (by assumption) ?_
        case h18 => (intro w hSw; (try dsimp only at hSw); go_simp <;> (try with_reducible rfl))
        try simp only [Act.put, List.setIfInBounds_toArray, List.set_cons_zero, List.set_cons_succ, List.getElem_toArray, List.getElem_cons_zero, List.getElem_cons_succ]
        refine wpAnyH_take (i := 19) rfl (by kernel_rfl) (by kernel_rfl) (by kernel_rfl) (fun _ _ _ h => h) (Or.inr ⟨by rfl, rfl⟩) (by assumption) ?_
        try simp only [Act.put, List.setIfInBounds_toArray, List.set_cons_zero, List.set_cons_succ, List.getElem_toArray, List.getElem_cons_zero, List.getElem_cons_succ]
        refine wpAnyH_take (i := 20) rfl (by kernel_rfl) (by kernel_rfl) (by kernel_rfl) (fun _ _ _ h => h) (Or.inr ⟨by rfl, rfl⟩) (by assumption) ?_
        try simp only [Act.put, List.setIfInBounds_toArray, List.set_cons_zero, List.set_cons_succ, List.getElem_toArray, List.getElem_cons_zero, List.getElem_cons_succ]
        refine wpAnyH_take (i := 21) rfl (by kernel_rfl) (by kernel_rfl) (by kernel_rfl) (fun _ _ _ h => h) (Or.inr ⟨by rfl, rfl⟩) (by assumption) ?_
        try simp only [Act.put, List.setIfInBounds_toArray, List.set_cons_zero, List.set_cons_succ, List.getElem_toArray, List.getElem_cons_zero, List.getElem_cons_succ]
        refine wpAnyH_take (i := 22) rfl (by kernel_rfl) (by kernel_rfl) (by kernel_rfl) (fun _ _ _ h => h) (Or.inr ⟨by rfl, rfl⟩) (by assumption) ?_
        try simp only [Act.put, List.setIfInBounds_toArray, List.set_cons_zero, List.set_cons_succ, List.getElem_toArray, List.getElem_cons_zero, List.getElem_cons_succ]
        refine wpAnyH_take (i := 23) (v := .bool false) rfl (by kernel_rfl) (by kernel_rfl) (by kernel_rfl) (fun _ _ _ h => h) (Or.inl ⟨by rfl, ?h23⟩) (by assumption) ?_
        case h23 => (intro w hSw; (try dsimp only at hSw); go_simp <;> (try with_reducible rfl))
        try simp only [Act.put, List.setIfInBounds_toArray, List.set_cons_zero, List.set_cons_succ, List.getElem_toArray, List.getElem_cons_zero, List.getElem_cons_succ]
        refine wpAnyH_done (by kernel_rfl) ?_ _
        have hblR := below_trans' hblW hHeld2.1
        go_wp2_with fail
        go_roundw
        case rel => exact ⟨d + 1, Hd2.out hiE, by rw [← Hi1.out]; go_num, by rw [HA2.out] <;> go_num, hblR⟩
        case measure => simp [intOf] <;> omega
      | true =>
        by_cases hne : Y.kind = Z.kind
        · have hnb : (Y.kind != Z.kind) = false := by simp [hne]
          have HA2 : Hid (alTo (altF f N) f k (d + 1) = M) := Lib.hid (by rw [HA.out, if_neg (by rw [HP.out, decide_eq_false (fun h => h hne)]; simp)])
          clear hne
          go_wp2_with fail
          refine (formulaEnd_e _ f k E _ HE.out hn HS.out hkf (HV.out.below hbl)).mono ?_
          rintro e W0 ⟨rfl, hb1⟩
          have hblW := below_trans' hbl hb1
          clear hb1
          have q0 := (hblW.cell (by exact hb)).trans g0
          have q1 := (hblW.cell (by exact hb)).trans g1
          have q2 := (hblW.cell (by exact hb)).trans g2
          have q3 := (hblW.cell (by exact hb)).trans g3
          have r0 := (hblW.cell (by exact hb)).trans p0
          have hbW : b < W0.heap.size := Nat.lt_of_lt_of_le hb hblW.size
          have hd0 : Below W0.heap.size W0 W0.drew := Below.drew (Below.refl _ _)
          go_wp2_with fail
          refine wp_region_held_drew (S := fun W => Below W0.heap.size W0 W ∧ W.cell? ⟨b, o + i * 4, none⟩ = some (.int .i64 Y.kind) ∧ W.cell? ⟨b, o + i * 4 + 1, none⟩ = some (.int .i64 Y.var) ∧ W.cell? ⟨b, o + i * 4 + 2, none⟩ = some (.string Y.lab) ∧ W.cell? ⟨b, o + i * 4 + 3, none⟩ = some (.bool Y.neg) ∧ W.cell? ⟨b, o + k * 4, none⟩ = some (.int .i64 Z.kind)) (by kernel_rfl) ⟨hd0, q0, q1, q2, q3, r0⟩ (fun hHeld => ?_)
          refine wpAnyH_take (i := 0) (v := ?v0) rfl (by kernel_rfl) (by kernel_rfl) (by kernel_rfl) (fun _ _ _ h => h) (Or.inl ⟨by rfl, ?h0⟩) (by assumption) ?_
          case h0 => (intro w hSw; (try dsimp only at hSw); go_simp <;> (try with_reducible rfl))
          try simp only [Act.put, List.setIfInBounds_toArray, List.set_cons_zero, List.set_cons_succ, List.getElem_toArray, List.getElem_cons_zero, List.getElem_cons_succ]
          refine wpAnyH_take (i := 1) (v := ?v1) rfl (by kernel_rfl) (by kernel_rfl) (by kernel_rfl) (fun _ _ _ h => h) (Or.inl ⟨by rfl, ?h1⟩) (by assumption) ?_
          case h1 => (intro w hSw; (try dsimp only at hSw); go_simp <;> (try with_reducible rfl))
          try simp only [Act.put, List.setIfInBounds_toArray, List.set_cons_zero, List.set_cons_succ, List.getElem_toArray, List.getElem_cons_zero, List.getElem_cons_succ]
          refine wpAnyH_take (i := 2) (v := ?v2) rfl (by kernel_rfl) (by kernel_rfl) (by kernel_rfl) (fun _ _ _ h => h) (Or.inl ⟨by rfl, ?h2⟩) (by assumption) ?_
          case h2 => (intro w hSw; (try dsimp only at hSw); go_simp <;> (try with_reducible rfl))
          try simp only [Act.put, List.setIfInBounds_toArray, List.set_cons_zero, List.set_cons_succ, List.getElem_toArray, List.getElem_cons_zero, List.getElem_cons_succ]
          refine wpAnyH_take (i := 3) (v := ?v3) rfl (by kernel_rfl) (by kernel_rfl) (by kernel_rfl) (fun _ _ _ h => h) (Or.inl ⟨by rfl, ?h3⟩) (by assumption) ?_
          case h3 => (intro w hSw; (try dsimp only at hSw); go_simp <;> (try with_reducible rfl))
          try simp only [Act.put, List.setIfInBounds_toArray, List.set_cons_zero, List.set_cons_succ, List.getElem_toArray, List.getElem_cons_zero, List.getElem_cons_succ]
          refine wpAnyH_ready (rs := [4]) (by kernel_rfl) (by simp) ?_
          refine AllReadyH.cons rfl (fun K hK => ?_) (AllReadyH.nil)
          go_simp
          (go_at_call 89; refine (isFixed_r _ _ _ _ true _ hfx).mono ?_; rintro e w1 ⟨rfl, hbz⟩)
          dsimp only
          refine hK.out _ _ ?_ (fun hHeld2 => ?_)
          · try dsimp only
            exact held_step (by assumption) (by assumption) hbW
          clear hK K
          try simp only [Act.put, List.setIfInBounds_toArray, List.set_cons_zero, List.set_cons_succ, List.getElem_toArray, List.getElem_cons_zero, List.getElem_cons_succ]
          refine wpAnyH_take (i := 5) (v := .bool true) rfl (by kernel_rfl) (by kernel_rfl) (by kernel_rfl) (fun _ _ _ h => h) (Or.inl ⟨by rfl, ?h5⟩) (by assumption) ?_
          case h5 => (intro w hSw; (try dsimp only at hSw); go_simp <;> (try with_reducible rfl))
          try simp only [Act.put, List.setIfInBounds_toArray, List.set_cons_zero, List.set_cons_succ, List.getElem_toArray, List.getElem_cons_zero, List.getElem_cons_succ]
          refine wpAnyH_take (i := 6) (v := ?v6) rfl (by kernel_rfl) (by kernel_rfl) (by kernel_rfl) (fun _ _ _ h => h) (Or.inl ⟨by rfl, ?h6⟩) (by assumption) ?_
          case h6 => (intro w hSw; (try dsimp only at hSw); go_simp <;> (try with_reducible rfl))
          try simp only [Act.put, List.setIfInBounds_toArray, List.set_cons_zero, List.set_cons_succ, List.getElem_toArray, List.getElem_cons_zero, List.getElem_cons_succ]
          refine wpAnyH_take (i := 7) (v := ?v7) rfl (by kernel_rfl) (by kernel_rfl) (by kernel_rfl) (fun _ _ _ h => h) (Or.inl ⟨by rfl, ?h7⟩) (by assumption) ?_
          case h7 => (intro w hSw; (try dsimp only at hSw); go_simp <;> (try with_reducible rfl))
          try simp only [Act.put, List.setIfInBounds_toArray, List.set_cons_zero, List.set_cons_succ, List.getElem_toArray, List.getElem_cons_zero, List.getElem_cons_succ]
          refine wpAnyH_take (i := 8) (v := ?v8) rfl (by kernel_rfl) (by kernel_rfl) (by kernel_rfl) (fun _ _ _ h => h) (Or.inl ⟨by rfl, ?h8⟩) (by assumption) ?_
          case h8 => (intro w hSw; (try dsimp only at hSw); go_simp <;> (try with_reducible rfl))
          try simp only [Act.put, List.setIfInBounds_toArray, List.set_cons_zero, List.set_cons_succ, List.getElem_toArray, List.getElem_cons_zero, List.getElem_cons_succ]
          refine wpAnyH_take (i := 9) (v := ?v9) rfl (by kernel_rfl) (by kernel_rfl) (by kernel_rfl) (fun _ _ _ h => h) (Or.inl ⟨by rfl, ?h9⟩) (by assumption) ?_
          case h9 => (intro w hSw; (try dsimp only at hSw); go_simp <;> (try with_reducible rfl))
          try simp only [Act.put, List.setIfInBounds_toArray, List.set_cons_zero, List.set_cons_succ, List.getElem_toArray, List.getElem_cons_zero, List.getElem_cons_succ]
          refine wpAnyH_take (i := 10) (v := ?v10) rfl (by kernel_rfl) (by kernel_rfl) (by kernel_rfl) (fun _ _ _ h => h) (Or.inl ⟨by rfl, ?h10⟩) (by assumption) ?_
          case h10 => (intro w hSw; (try dsimp only at hSw); go_simp <;> (try with_reducible rfl))
          try simp only [Act.put, List.setIfInBounds_toArray, List.set_cons_zero, List.set_cons_succ, List.getElem_toArray, List.getElem_cons_zero, List.getElem_cons_succ]
          refine wpAnyH_take (i := 11) (v := ?v11) rfl (by kernel_rfl) (by kernel_rfl) (by kernel_rfl) (fun _ _ _ h => h) (Or.inl ⟨by rfl, ?h11⟩) (by assumption) ?_
          case h11 => (intro w hSw; (try dsimp only at hSw); go_simp <;> (try with_reducible rfl))
          try simp only [Act.put, List.setIfInBounds_toArray, List.set_cons_zero, List.set_cons_succ, List.getElem_toArray, List.getElem_cons_zero, List.getElem_cons_succ]
          refine wpAnyH_take (i := 12) (v := ?v12) rfl (by kernel_rfl) (by kernel_rfl) (by kernel_rfl) (fun _ _ _ h => h) (Or.inl ⟨by rfl, ?h12⟩) (by assumption) ?_
          case h12 => (intro w hSw; (try dsimp only at hSw); go_simp <;> (try with_reducible rfl))
          try simp only [Act.put, List.setIfInBounds_toArray, List.set_cons_zero, List.set_cons_succ, List.getElem_toArray, List.getElem_cons_zero, List.getElem_cons_succ]
          refine wpAnyH_take (i := 13) (v := ?v13) rfl (by kernel_rfl) (by kernel_rfl) (by kernel_rfl) (fun _ _ _ h => h) (Or.inl ⟨by rfl, ?h13⟩) (by assumption) ?_
          case h13 => (intro w hSw; (try dsimp only at hSw); go_simp <;> (try with_reducible rfl))
          try simp only [Act.put, List.setIfInBounds_toArray, List.set_cons_zero, List.set_cons_succ, List.getElem_toArray, List.getElem_cons_zero, List.getElem_cons_succ]
          refine wpAnyH_take (i := 14) (v := ?v14) rfl (by kernel_rfl) (by kernel_rfl) (by kernel_rfl) (fun _ _ _ h => h) (Or.inl ⟨by rfl, ?h14⟩) (by assumption) ?_
          case h14 => (intro w hSw; (try dsimp only at hSw); go_simp <;> (try with_reducible rfl))
          try simp only [Act.put, List.setIfInBounds_toArray, List.set_cons_zero, List.set_cons_succ, List.getElem_toArray, List.getElem_cons_zero, List.getElem_cons_succ]
          refine wpAnyH_take (i := 15) (v := ?v15) rfl (by kernel_rfl) (by kernel_rfl) (by kernel_rfl) (fun _ _ _ h => h) (Or.inl ⟨by rfl, ?h15⟩) (by assumption) ?_
          case h15 => (intro w hSw; (try dsimp only at hSw); go_simp <;> (try with_reducible rfl))
          try simp only [Act.put, List.setIfInBounds_toArray, List.set_cons_zero, List.set_cons_succ, List.getElem_toArray, List.getElem_cons_zero, List.getElem_cons_succ]
          refine wpAnyH_take (i := 16) (v := .bool false) rfl (by kernel_rfl) (by kernel_rfl) (by kernel_rfl) (fun _ _ _ h => h) (Or.inl ⟨by rfl, ?h16⟩) (by assumption) ?_
          case h16 => (intro w hSw; (try dsimp only at hSw); go_simp <;> (try with_reducible rfl))
          try simp only [Act.put, List.setIfInBounds_toArray, List.set_cons_zero, List.set_cons_succ, List.getElem_toArray, List.getElem_cons_zero, List.getElem_cons_succ]
          refine wpAnyH_take (i := 17) (v := .bool false) rfl (by kernel_rfl) (by kernel_rfl) (by kernel_rfl) (fun _ _ _ h => h) (Or.inl ⟨by rfl, ?h17⟩) (by assumption) ?_
          case h17 => (intro w hSw; (try dsimp only at hSw); go_simp <;> (try with_reducible rfl))
          try simp only [Act.put, List.setIfInBounds_toArray, List.set_cons_zero, List.set_cons_succ, List.getElem_toArray, List.getElem_cons_zero, List.getElem_cons_succ]
          refine wpAnyH_take (i := 18) (v := .bool false) rfl (by kernel_rfl) (by kernel_rfl) (by kernel_rfl) (fun _ _ _ h => h) (Or.inl ⟨by rfl, ?h18⟩) (by assumption) ?_
          case h18 => (intro w hSw; (try dsimp only at hSw); go_simp <;> (try with_reducible rfl))
          try simp only [Act.put, List.setIfInBounds_toArray, List.set_cons_zero, List.set_cons_succ, List.getElem_toArray, List.getElem_cons_zero, List.getElem_cons_succ]
          refine wpAnyH_take (i := 19) rfl (by kernel_rfl) (by kernel_rfl) (by kernel_rfl) (fun _ _ _ h => h) (Or.inr ⟨by rfl, rfl⟩) (by assumption) ?_
          try simp only [Act.put, List.setIfInBounds_toArray, List.set_cons_zero, List.set_cons_succ, List.getElem_toArray, List.getElem_cons_zero, List.getElem_cons_succ]
          refine wpAnyH_take (i := 20) rfl (by kernel_rfl) (by kernel_rfl) (by kernel_rfl) (fun _ _ _ h => h) (Or.inr ⟨by rfl, rfl⟩) (by assumption) ?_
          try simp only [Act.put, List.setIfInBounds_toArray, List.set_cons_zero, List.set_cons_succ, List.getElem_toArray, List.getElem_cons_zero, List.getElem_cons_succ]
          refine wpAnyH_take (i := 21) rfl (by kernel_rfl) (by kernel_rfl) (by kernel_rfl) (fun _ _ _ h => h) (Or.inr ⟨by rfl, rfl⟩) (by assumption) ?_
          try simp only [Act.put, List.setIfInBounds_toArray, List.set_cons_zero, List.set_cons_succ, List.getElem_toArray, List.getElem_cons_zero, List.getElem_cons_succ]
          refine wpAnyH_take (i := 22) rfl (by kernel_rfl) (by kernel_rfl) (by kernel_rfl) (fun _ _ _ h => h) (Or.inr ⟨by rfl, rfl⟩) (by assumption) ?_
          try simp only [Act.put, List.setIfInBounds_toArray, List.set_cons_zero, List.set_cons_succ, List.getElem_toArray, List.getElem_cons_zero, List.getElem_cons_succ]
          refine wpAnyH_take (i := 23) (v := .bool false) rfl (by kernel_rfl) (by kernel_rfl) (by kernel_rfl) (fun _ _ _ h => h) (Or.inl ⟨by rfl, ?h23⟩) (by assumption) ?_
          case h23 => (intro w hSw; (try dsimp only at hSw); go_simp <;> (try with_reducible rfl))
          try simp only [Act.put, List.setIfInBounds_toArray, List.set_cons_zero, List.set_cons_succ, List.getElem_toArray, List.getElem_cons_zero, List.getElem_cons_succ]
          refine wpAnyH_done (by kernel_rfl) ?_ _
          have hblR := below_trans' hblW hHeld2.1
          go_wp2_with fail
          go_roundw
          case rel => exact ⟨d + 1, Hd2.out hiE, by rw [← Hi1.out]; go_num, by rw [HA2.out] <;> go_num, hblR⟩
          case measure => simp [intOf] <;> omega
        · have hnb : (Y.kind != Z.kind) = true := by simp [hne]
          cases hus : usesB f i k with
          | false =>
            have HA2 : Hid (alTo (altF f N) f k (d + 1) = M) := Lib.hid (by rw [HA.out, if_neg (by rw [HP.out, hus]; simp)])
            clear hne
            go_wp2_with fail
            refine (formulaEnd_e _ f k E _ HE.out hn HS.out hkf (HV.out.below hbl)).mono ?_
            rintro e W0 ⟨rfl, hb1⟩
            have hblW := below_trans' hbl hb1
            clear hb1
            have q0 := (hblW.cell (by exact hb)).trans g0
            have q1 := (hblW.cell (by exact hb)).trans g1
            have q2 := (hblW.cell (by exact hb)).trans g2
            have q3 := (hblW.cell (by exact hb)).trans g3
            have r0 := (hblW.cell (by exact hb)).trans p0
            have hbW : b < W0.heap.size := Nat.lt_of_lt_of_le hb hblW.size
            have hd0 : Below W0.heap.size W0 W0.drew := Below.drew (Below.refl _ _)
            go_wp2_with fail
            refine wp_region_held_drew (S := fun W => Below W0.heap.size W0 W ∧ W.cell? ⟨b, o + i * 4, none⟩ = some (.int .i64 Y.kind) ∧ W.cell? ⟨b, o + i * 4 + 1, none⟩ = some (.int .i64 Y.var) ∧ W.cell? ⟨b, o + i * 4 + 2, none⟩ = some (.string Y.lab) ∧ W.cell? ⟨b, o + i * 4 + 3, none⟩ = some (.bool Y.neg) ∧ W.cell? ⟨b, o + k * 4, none⟩ = some (.int .i64 Z.kind)) (by kernel_rfl) ⟨hd0, q0, q1, q2, q3, r0⟩ (fun hHeld => ?_)
            refine wpAnyH_take (i := 0) (v := ?v0) rfl (by kernel_rfl) (by kernel_rfl) (by kernel_rfl) (fun _ _ _ h => h) (Or.inl ⟨by rfl, ?h0⟩) (by assumption) ?_
            case h0 => (intro w hSw; (try dsimp only at hSw); go_simp <;> (try with_reducible rfl))
            try simp only [Act.put, List.setIfInBounds_toArray, List.set_cons_zero, List.set_cons_succ, List.getElem_toArray, List.getElem_cons_zero, List.getElem_cons_succ]
            refine wpAnyH_take (i := 1) (v := ?v1) rfl (by kernel_rfl) (by kernel_rfl) (by kernel_rfl) (fun _ _ _ h => h) (Or.inl ⟨by rfl, ?h1⟩) (by assumption) ?_
            case h1 => (intro w hSw; (try dsimp only at hSw); go_simp <;> (try with_reducible rfl))
            try simp only [Act.put, List.setIfInBounds_toArray, List.set_cons_zero, List.set_cons_succ, List.getElem_toArray, List.getElem_cons_zero, List.getElem_cons_succ]
            refine wpAnyH_take (i := 2) (v := ?v2) rfl (by kernel_rfl) (by kernel_rfl) (by kernel_rfl) (fun _ _ _ h => h) (Or.inl ⟨by rfl, ?h2⟩) (by assumption) ?_
            case h2 => (intro w hSw; (try dsimp only at hSw); go_simp <;> (try with_reducible rfl))
            try simp only [Act.put, List.setIfInBounds_toArray, List.set_cons_zero, List.set_cons_succ, List.getElem_toArray, List.getElem_cons_zero, List.getElem_cons_succ]
            refine wpAnyH_take (i := 3) (v := ?v3) rfl (by kernel_rfl) (by kernel_rfl) (by kernel_rfl) (fun _ _ _ h => h) (Or.inl ⟨by rfl, ?h3⟩) (by assumption) ?_
            case h3 => (intro w hSw; (try dsimp only at hSw); go_simp <;> (try with_reducible rfl))
            try simp only [Act.put, List.setIfInBounds_toArray, List.set_cons_zero, List.set_cons_succ, List.getElem_toArray, List.getElem_cons_zero, List.getElem_cons_succ]
            refine wpAnyH_ready (rs := [4]) (by kernel_rfl) (by simp) ?_
            refine AllReadyH.cons rfl (fun K hK => ?_) (AllReadyH.nil)
            go_simp
            (go_at_call 89; refine (isFixed_r _ _ _ _ true _ hfx).mono ?_; rintro e w1 ⟨rfl, hbz⟩)
            dsimp only
            refine hK.out _ _ ?_ (fun hHeld2 => ?_)
            · try dsimp only
              exact held_step (by assumption) (by assumption) hbW
            clear hK K
            try simp only [Act.put, List.setIfInBounds_toArray, List.set_cons_zero, List.set_cons_succ, List.getElem_toArray, List.getElem_cons_zero, List.getElem_cons_succ]
            refine wpAnyH_take (i := 5) (v := .bool true) rfl (by kernel_rfl) (by kernel_rfl) (by kernel_rfl) (fun _ _ _ h => h) (Or.inl ⟨by rfl, ?h5⟩) (by assumption) ?_
            case h5 => (intro w hSw; (try dsimp only at hSw); go_simp <;> (try with_reducible rfl))
            try simp only [Act.put, List.setIfInBounds_toArray, List.set_cons_zero, List.set_cons_succ, List.getElem_toArray, List.getElem_cons_zero, List.getElem_cons_succ]
            refine wpAnyH_take (i := 6) (v := ?v6) rfl (by kernel_rfl) (by kernel_rfl) (by kernel_rfl) (fun _ _ _ h => h) (Or.inl ⟨by rfl, ?h6⟩) (by assumption) ?_
            case h6 => (intro w hSw; (try dsimp only at hSw); go_simp <;> (try with_reducible rfl))
            try simp only [Act.put, List.setIfInBounds_toArray, List.set_cons_zero, List.set_cons_succ, List.getElem_toArray, List.getElem_cons_zero, List.getElem_cons_succ]
            refine wpAnyH_take (i := 7) (v := ?v7) rfl (by kernel_rfl) (by kernel_rfl) (by kernel_rfl) (fun _ _ _ h => h) (Or.inl ⟨by rfl, ?h7⟩) (by assumption) ?_
            case h7 => (intro w hSw; (try dsimp only at hSw); go_simp <;> (try with_reducible rfl))
            try simp only [Act.put, List.setIfInBounds_toArray, List.set_cons_zero, List.set_cons_succ, List.getElem_toArray, List.getElem_cons_zero, List.getElem_cons_succ]
            refine wpAnyH_take (i := 8) (v := ?v8) rfl (by kernel_rfl) (by kernel_rfl) (by kernel_rfl) (fun _ _ _ h => h) (Or.inl ⟨by rfl, ?h8⟩) (by assumption) ?_
            case h8 => (intro w hSw; (try dsimp only at hSw); go_simp <;> (try with_reducible rfl))
            try simp only [Act.put, List.setIfInBounds_toArray, List.set_cons_zero, List.set_cons_succ, List.getElem_toArray, List.getElem_cons_zero, List.getElem_cons_succ]
            refine wpAnyH_take (i := 9) (v := ?v9) rfl (by kernel_rfl) (by kernel_rfl) (by kernel_rfl) (fun _ _ _ h => h) (Or.inl ⟨by rfl, ?h9⟩) (by assumption) ?_
            case h9 => (intro w hSw; (try dsimp only at hSw); go_simp <;> (try with_reducible rfl))
            try simp only [Act.put, List.setIfInBounds_toArray, List.set_cons_zero, List.set_cons_succ, List.getElem_toArray, List.getElem_cons_zero, List.getElem_cons_succ]
            refine wpAnyH_take (i := 10) (v := ?v10) rfl (by kernel_rfl) (by kernel_rfl) (by kernel_rfl) (fun _ _ _ h => h) (Or.inl ⟨by rfl, ?h10⟩) (by assumption) ?_
            case h10 => (intro w hSw; (try dsimp only at hSw); go_simp <;> (try with_reducible rfl))
            try simp only [Act.put, List.setIfInBounds_toArray, List.set_cons_zero, List.set_cons_succ, List.getElem_toArray, List.getElem_cons_zero, List.getElem_cons_succ]
            refine wpAnyH_take (i := 11) (v := ?v11) rfl (by kernel_rfl) (by kernel_rfl) (by kernel_rfl) (fun _ _ _ h => h) (Or.inl ⟨by rfl, ?h11⟩) (by assumption) ?_
            case h11 => (intro w hSw; (try dsimp only at hSw); go_simp <;> (try with_reducible rfl))
            try simp only [Act.put, List.setIfInBounds_toArray, List.set_cons_zero, List.set_cons_succ, List.getElem_toArray, List.getElem_cons_zero, List.getElem_cons_succ]
            refine wpAnyH_take (i := 12) (v := ?v12) rfl (by kernel_rfl) (by kernel_rfl) (by kernel_rfl) (fun _ _ _ h => h) (Or.inl ⟨by rfl, ?h12⟩) (by assumption) ?_
            case h12 => (intro w hSw; (try dsimp only at hSw); go_simp <;> (try with_reducible rfl))
            try simp only [Act.put, List.setIfInBounds_toArray, List.set_cons_zero, List.set_cons_succ, List.getElem_toArray, List.getElem_cons_zero, List.getElem_cons_succ]
            refine wpAnyH_take (i := 13) (v := ?v13) rfl (by kernel_rfl) (by kernel_rfl) (by kernel_rfl) (fun _ _ _ h => h) (Or.inl ⟨by rfl, ?h13⟩) (by assumption) ?_
            case h13 => (intro w hSw; (try dsimp only at hSw); go_simp <;> (try with_reducible rfl))
            try simp only [Act.put, List.setIfInBounds_toArray, List.set_cons_zero, List.set_cons_succ, List.getElem_toArray, List.getElem_cons_zero, List.getElem_cons_succ]
            refine wpAnyH_take (i := 14) (v := ?v14) rfl (by kernel_rfl) (by kernel_rfl) (by kernel_rfl) (fun _ _ _ h => h) (Or.inl ⟨by rfl, ?h14⟩) (by assumption) ?_
            case h14 => (intro w hSw; (try dsimp only at hSw); go_simp <;> (try with_reducible rfl))
            try simp only [Act.put, List.setIfInBounds_toArray, List.set_cons_zero, List.set_cons_succ, List.getElem_toArray, List.getElem_cons_zero, List.getElem_cons_succ]
            refine wpAnyH_take (i := 15) (v := ?v15) rfl (by kernel_rfl) (by kernel_rfl) (by kernel_rfl) (fun _ _ _ h => h) (Or.inl ⟨by rfl, ?h15⟩) (by assumption) ?_
            case h15 => (intro w hSw; (try dsimp only at hSw); go_simp <;> (try with_reducible rfl))
            try simp only [Act.put, List.setIfInBounds_toArray, List.set_cons_zero, List.set_cons_succ, List.getElem_toArray, List.getElem_cons_zero, List.getElem_cons_succ]
            refine wpAnyH_take (i := 16) (v := .bool true) rfl (by kernel_rfl) (by kernel_rfl) (by kernel_rfl) (fun _ _ _ h => h) (Or.inl ⟨by rfl, ?h16⟩) (by assumption) ?_
            case h16 => (intro w hSw; (try dsimp only at hSw); go_simp <;> (try with_reducible rfl))
            try simp only [Act.put, List.setIfInBounds_toArray, List.set_cons_zero, List.set_cons_succ, List.getElem_toArray, List.getElem_cons_zero, List.getElem_cons_succ]
            refine wpAnyH_take (i := 17) (v := .bool true) rfl (by kernel_rfl) (by kernel_rfl) (by kernel_rfl) (fun _ _ _ h => h) (Or.inl ⟨by rfl, ?h17⟩) (by assumption) ?_
            case h17 => (intro w hSw; (try dsimp only at hSw); go_simp <;> (try with_reducible rfl))
            try simp only [Act.put, List.setIfInBounds_toArray, List.set_cons_zero, List.set_cons_succ, List.getElem_toArray, List.getElem_cons_zero, List.getElem_cons_succ]
            refine wpAnyH_take (i := 18) (v := .bool true) rfl (by kernel_rfl) (by kernel_rfl) (by kernel_rfl) (fun _ _ _ h => h) (Or.inl ⟨by rfl, ?h18⟩) (by assumption) ?_
            case h18 => (intro w hSw; (try dsimp only at hSw); go_simp <;> (try with_reducible rfl))
            try simp only [Act.put, List.setIfInBounds_toArray, List.set_cons_zero, List.set_cons_succ, List.getElem_toArray, List.getElem_cons_zero, List.getElem_cons_succ]
            refine wpAnyH_take (i := 19) (v := ?v19) rfl (by kernel_rfl) (by kernel_rfl) (by kernel_rfl) (fun _ _ _ h => h) (Or.inl ⟨by rfl, ?h19⟩) (by assumption) ?_
            case h19 => (intro w hSw; (try dsimp only at hSw); go_simp <;> (try with_reducible rfl))
            try simp only [Act.put, List.setIfInBounds_toArray, List.set_cons_zero, List.set_cons_succ, List.getElem_toArray, List.getElem_cons_zero, List.getElem_cons_succ]
            refine wpAnyH_take (i := 20) (v := ?v20) rfl (by kernel_rfl) (by kernel_rfl) (by kernel_rfl) (fun _ _ _ h => h) (Or.inl ⟨by rfl, ?h20⟩) (by assumption) ?_
            case h20 => (intro w hSw; (try dsimp only at hSw); go_simp <;> (try with_reducible rfl))
            try simp only [Act.put, List.setIfInBounds_toArray, List.set_cons_zero, List.set_cons_succ, List.getElem_toArray, List.getElem_cons_zero, List.getElem_cons_succ]
            refine wpAnyH_take (i := 21) (v := ?v21) rfl (by kernel_rfl) (by kernel_rfl) (by kernel_rfl) (fun _ _ _ h => h) (Or.inl ⟨by rfl, ?h21⟩) (by assumption) ?_
            case h21 => (intro w hSw; (try dsimp only at hSw); go_simp <;> (try with_reducible rfl))
            try simp only [Act.put, List.setIfInBounds_toArray, List.set_cons_zero, List.set_cons_succ, List.getElem_toArray, List.getElem_cons_zero, List.getElem_cons_succ]
            refine wpAnyH_ready (rs := [22]) (by kernel_rfl) (by simp) ?_
            refine AllReadyH.cons rfl (fun K hK => ?_) (AllReadyH.nil)
            go_simp
            (go_at_call 117; refine (uses_r _ f i k false _ hus hn HS.out hif hkm (HV.out.below (below_trans' hblW hHeld2.1))).mono ?_; rintro e w2 ⟨rfl, hbz2⟩)
            dsimp only
            refine hK.out _ _ ?_ (fun hHeld3 => ?_)
            · try dsimp only
              exact held_step (by assumption) (by assumption) hbW
            clear hK K
            try simp only [Act.put, List.setIfInBounds_toArray, List.set_cons_zero, List.set_cons_succ, List.getElem_toArray, List.getElem_cons_zero, List.getElem_cons_succ]
            refine wpAnyH_take (i := 23) (v := .bool false) rfl (by kernel_rfl) (by kernel_rfl) (by kernel_rfl) (fun _ _ _ h => h) (Or.inl ⟨by rfl, ?h23⟩) (by assumption) ?_
            case h23 => (intro w hSw; (try dsimp only at hSw); go_simp <;> (try with_reducible rfl))
            try simp only [Act.put, List.setIfInBounds_toArray, List.set_cons_zero, List.set_cons_succ, List.getElem_toArray, List.getElem_cons_zero, List.getElem_cons_succ]
            refine wpAnyH_done (by kernel_rfl) ?_ _
            have hblR := below_trans' hblW hHeld3.1
            go_wp2_with fail
            go_roundw
            case rel => exact ⟨d + 1, Hd2.out hiE, by rw [← Hi1.out]; go_num, by rw [HA2.out] <;> go_num, hblR⟩
            case measure => simp [intOf] <;> omega
          | true =>
            have HA2 : Hid (alTo (altF f N) f k (d + 1) = max M X) := Lib.hid (by rw [HA.out, if_pos (by rw [HP.out, hus, hfx, decide_eq_true hne]; rfl)])
            clear hne
            go_wp2_with fail
            refine (formulaEnd_e _ f k E _ HE.out hn HS.out hkf (HV.out.below hbl)).mono ?_
            rintro e W0 ⟨rfl, hb1⟩
            have hblW := below_trans' hbl hb1
            clear hb1
            have q0 := (hblW.cell (by exact hb)).trans g0
            have q1 := (hblW.cell (by exact hb)).trans g1
            have q2 := (hblW.cell (by exact hb)).trans g2
            have q3 := (hblW.cell (by exact hb)).trans g3
            have r0 := (hblW.cell (by exact hb)).trans p0
            have hbW : b < W0.heap.size := Nat.lt_of_lt_of_le hb hblW.size
            have hd0 : Below W0.heap.size W0 W0.drew := Below.drew (Below.refl _ _)
            go_wp2_with fail
            refine wp_region_held_drew (S := fun W => Below W0.heap.size W0 W ∧ W.cell? ⟨b, o + i * 4, none⟩ = some (.int .i64 Y.kind) ∧ W.cell? ⟨b, o + i * 4 + 1, none⟩ = some (.int .i64 Y.var) ∧ W.cell? ⟨b, o + i * 4 + 2, none⟩ = some (.string Y.lab) ∧ W.cell? ⟨b, o + i * 4 + 3, none⟩ = some (.bool Y.neg) ∧ W.cell? ⟨b, o + k * 4, none⟩ = some (.int .i64 Z.kind)) (by kernel_rfl) ⟨hd0, q0, q1, q2, q3, r0⟩ (fun hHeld => ?_)
            refine wpAnyH_take (i := 0) (v := ?v0) rfl (by kernel_rfl) (by kernel_rfl) (by kernel_rfl) (fun _ _ _ h => h) (Or.inl ⟨by rfl, ?h0⟩) (by assumption) ?_
            case h0 => (intro w hSw; (try dsimp only at hSw); go_simp <;> (try with_reducible rfl))
            try simp only [Act.put, List.setIfInBounds_toArray, List.set_cons_zero, List.set_cons_succ, List.getElem_toArray, List.getElem_cons_zero, List.getElem_cons_succ]
            refine wpAnyH_take (i := 1) (v := ?v1) rfl (by kernel_rfl) (by kernel_rfl) (by kernel_rfl) (fun _ _ _ h => h) (Or.inl ⟨by rfl, ?h1⟩) (by assumption) ?_
            case h1 => (intro w hSw; (try dsimp only at hSw); go_simp <;> (try with_reducible rfl))
            try simp only [Act.put, List.setIfInBounds_toArray, List.set_cons_zero, List.set_cons_succ, List.getElem_toArray, List.getElem_cons_zero, List.getElem_cons_succ]
            refine wpAnyH_take (i := 2) (v := ?v2) rfl (by kernel_rfl) (by kernel_rfl) (by kernel_rfl) (fun _ _ _ h => h) (Or.inl ⟨by rfl, ?h2⟩) (by assumption) ?_
            case h2 => (intro w hSw; (try dsimp only at hSw); go_simp <;> (try with_reducible rfl))
            try simp only [Act.put, List.setIfInBounds_toArray, List.set_cons_zero, List.set_cons_succ, List.getElem_toArray, List.getElem_cons_zero, List.getElem_cons_succ]
            refine wpAnyH_take (i := 3) (v := ?v3) rfl (by kernel_rfl) (by kernel_rfl) (by kernel_rfl) (fun _ _ _ h => h) (Or.inl ⟨by rfl, ?h3⟩) (by assumption) ?_
            case h3 => (intro w hSw; (try dsimp only at hSw); go_simp <;> (try with_reducible rfl))
            try simp only [Act.put, List.setIfInBounds_toArray, List.set_cons_zero, List.set_cons_succ, List.getElem_toArray, List.getElem_cons_zero, List.getElem_cons_succ]
            refine wpAnyH_ready (rs := [4]) (by kernel_rfl) (by simp) ?_
            refine AllReadyH.cons rfl (fun K hK => ?_) (AllReadyH.nil)
            go_simp
            (go_at_call 89; refine (isFixed_r _ _ _ _ true _ hfx).mono ?_; rintro e w1 ⟨rfl, hbz⟩)
            dsimp only
            refine hK.out _ _ ?_ (fun hHeld2 => ?_)
            · try dsimp only
              exact held_step (by assumption) (by assumption) hbW
            clear hK K
            try simp only [Act.put, List.setIfInBounds_toArray, List.set_cons_zero, List.set_cons_succ, List.getElem_toArray, List.getElem_cons_zero, List.getElem_cons_succ]
            refine wpAnyH_take (i := 5) (v := .bool true) rfl (by kernel_rfl) (by kernel_rfl) (by kernel_rfl) (fun _ _ _ h => h) (Or.inl ⟨by rfl, ?h5⟩) (by assumption) ?_
            case h5 => (intro w hSw; (try dsimp only at hSw); go_simp <;> (try with_reducible rfl))
            try simp only [Act.put, List.setIfInBounds_toArray, List.set_cons_zero, List.set_cons_succ, List.getElem_toArray, List.getElem_cons_zero, List.getElem_cons_succ]
            refine wpAnyH_take (i := 6) (v := ?v6) rfl (by kernel_rfl) (by kernel_rfl) (by kernel_rfl) (fun _ _ _ h => h) (Or.inl ⟨by rfl, ?h6⟩) (by assumption) ?_
            case h6 => (intro w hSw; (try dsimp only at hSw); go_simp <;> (try with_reducible rfl))
            try simp only [Act.put, List.setIfInBounds_toArray, List.set_cons_zero, List.set_cons_succ, List.getElem_toArray, List.getElem_cons_zero, List.getElem_cons_succ]
            refine wpAnyH_take (i := 7) (v := ?v7) rfl (by kernel_rfl) (by kernel_rfl) (by kernel_rfl) (fun _ _ _ h => h) (Or.inl ⟨by rfl, ?h7⟩) (by assumption) ?_
            case h7 => (intro w hSw; (try dsimp only at hSw); go_simp <;> (try with_reducible rfl))
            try simp only [Act.put, List.setIfInBounds_toArray, List.set_cons_zero, List.set_cons_succ, List.getElem_toArray, List.getElem_cons_zero, List.getElem_cons_succ]
            refine wpAnyH_take (i := 8) (v := ?v8) rfl (by kernel_rfl) (by kernel_rfl) (by kernel_rfl) (fun _ _ _ h => h) (Or.inl ⟨by rfl, ?h8⟩) (by assumption) ?_
            case h8 => (intro w hSw; (try dsimp only at hSw); go_simp <;> (try with_reducible rfl))
            try simp only [Act.put, List.setIfInBounds_toArray, List.set_cons_zero, List.set_cons_succ, List.getElem_toArray, List.getElem_cons_zero, List.getElem_cons_succ]
            refine wpAnyH_take (i := 9) (v := ?v9) rfl (by kernel_rfl) (by kernel_rfl) (by kernel_rfl) (fun _ _ _ h => h) (Or.inl ⟨by rfl, ?h9⟩) (by assumption) ?_
            case h9 => (intro w hSw; (try dsimp only at hSw); go_simp <;> (try with_reducible rfl))
            try simp only [Act.put, List.setIfInBounds_toArray, List.set_cons_zero, List.set_cons_succ, List.getElem_toArray, List.getElem_cons_zero, List.getElem_cons_succ]
            refine wpAnyH_take (i := 10) (v := ?v10) rfl (by kernel_rfl) (by kernel_rfl) (by kernel_rfl) (fun _ _ _ h => h) (Or.inl ⟨by rfl, ?h10⟩) (by assumption) ?_
            case h10 => (intro w hSw; (try dsimp only at hSw); go_simp <;> (try with_reducible rfl))
            try simp only [Act.put, List.setIfInBounds_toArray, List.set_cons_zero, List.set_cons_succ, List.getElem_toArray, List.getElem_cons_zero, List.getElem_cons_succ]
            refine wpAnyH_take (i := 11) (v := ?v11) rfl (by kernel_rfl) (by kernel_rfl) (by kernel_rfl) (fun _ _ _ h => h) (Or.inl ⟨by rfl, ?h11⟩) (by assumption) ?_
            case h11 => (intro w hSw; (try dsimp only at hSw); go_simp <;> (try with_reducible rfl))
            try simp only [Act.put, List.setIfInBounds_toArray, List.set_cons_zero, List.set_cons_succ, List.getElem_toArray, List.getElem_cons_zero, List.getElem_cons_succ]
            refine wpAnyH_take (i := 12) (v := ?v12) rfl (by kernel_rfl) (by kernel_rfl) (by kernel_rfl) (fun _ _ _ h => h) (Or.inl ⟨by rfl, ?h12⟩) (by assumption) ?_
            case h12 => (intro w hSw; (try dsimp only at hSw); go_simp <;> (try with_reducible rfl))
            try simp only [Act.put, List.setIfInBounds_toArray, List.set_cons_zero, List.set_cons_succ, List.getElem_toArray, List.getElem_cons_zero, List.getElem_cons_succ]
            refine wpAnyH_take (i := 13) (v := ?v13) rfl (by kernel_rfl) (by kernel_rfl) (by kernel_rfl) (fun _ _ _ h => h) (Or.inl ⟨by rfl, ?h13⟩) (by assumption) ?_
            case h13 => (intro w hSw; (try dsimp only at hSw); go_simp <;> (try with_reducible rfl))
            try simp only [Act.put, List.setIfInBounds_toArray, List.set_cons_zero, List.set_cons_succ, List.getElem_toArray, List.getElem_cons_zero, List.getElem_cons_succ]
            refine wpAnyH_take (i := 14) (v := ?v14) rfl (by kernel_rfl) (by kernel_rfl) (by kernel_rfl) (fun _ _ _ h => h) (Or.inl ⟨by rfl, ?h14⟩) (by assumption) ?_
            case h14 => (intro w hSw; (try dsimp only at hSw); go_simp <;> (try with_reducible rfl))
            try simp only [Act.put, List.setIfInBounds_toArray, List.set_cons_zero, List.set_cons_succ, List.getElem_toArray, List.getElem_cons_zero, List.getElem_cons_succ]
            refine wpAnyH_take (i := 15) (v := ?v15) rfl (by kernel_rfl) (by kernel_rfl) (by kernel_rfl) (fun _ _ _ h => h) (Or.inl ⟨by rfl, ?h15⟩) (by assumption) ?_
            case h15 => (intro w hSw; (try dsimp only at hSw); go_simp <;> (try with_reducible rfl))
            try simp only [Act.put, List.setIfInBounds_toArray, List.set_cons_zero, List.set_cons_succ, List.getElem_toArray, List.getElem_cons_zero, List.getElem_cons_succ]
            refine wpAnyH_take (i := 16) (v := .bool true) rfl (by kernel_rfl) (by kernel_rfl) (by kernel_rfl) (fun _ _ _ h => h) (Or.inl ⟨by rfl, ?h16⟩) (by assumption) ?_
            case h16 => (intro w hSw; (try dsimp only at hSw); go_simp <;> (try with_reducible rfl))
            try simp only [Act.put, List.setIfInBounds_toArray, List.set_cons_zero, List.set_cons_succ, List.getElem_toArray, List.getElem_cons_zero, List.getElem_cons_succ]
            refine wpAnyH_take (i := 17) (v := .bool true) rfl (by kernel_rfl) (by kernel_rfl) (by kernel_rfl) (fun _ _ _ h => h) (Or.inl ⟨by rfl, ?h17⟩) (by assumption) ?_
            case h17 => (intro w hSw; (try dsimp only at hSw); go_simp <;> (try with_reducible rfl))
            try simp only [Act.put, List.setIfInBounds_toArray, List.set_cons_zero, List.set_cons_succ, List.getElem_toArray, List.getElem_cons_zero, List.getElem_cons_succ]
            refine wpAnyH_take (i := 18) (v := .bool true) rfl (by kernel_rfl) (by kernel_rfl) (by kernel_rfl) (fun _ _ _ h => h) (Or.inl ⟨by rfl, ?h18⟩) (by assumption) ?_
            case h18 => (intro w hSw; (try dsimp only at hSw); go_simp <;> (try with_reducible rfl))
            try simp only [Act.put, List.setIfInBounds_toArray, List.set_cons_zero, List.set_cons_succ, List.getElem_toArray, List.getElem_cons_zero, List.getElem_cons_succ]
            refine wpAnyH_take (i := 19) (v := ?v19) rfl (by kernel_rfl) (by kernel_rfl) (by kernel_rfl) (fun _ _ _ h => h) (Or.inl ⟨by rfl, ?h19⟩) (by assumption) ?_
            case h19 => (intro w hSw; (try dsimp only at hSw); go_simp <;> (try with_reducible rfl))
            try simp only [Act.put, List.setIfInBounds_toArray, List.set_cons_zero, List.set_cons_succ, List.getElem_toArray, List.getElem_cons_zero, List.getElem_cons_succ]
            refine wpAnyH_take (i := 20) (v := ?v20) rfl (by kernel_rfl) (by kernel_rfl) (by kernel_rfl) (fun _ _ _ h => h) (Or.inl ⟨by rfl, ?h20⟩) (by assumption) ?_
            case h20 => (intro w hSw; (try dsimp only at hSw); go_simp <;> (try with_reducible rfl))
            try simp only [Act.put, List.setIfInBounds_toArray, List.set_cons_zero, List.set_cons_succ, List.getElem_toArray, List.getElem_cons_zero, List.getElem_cons_succ]
            refine wpAnyH_take (i := 21) (v := ?v21) rfl (by kernel_rfl) (by kernel_rfl) (by kernel_rfl) (fun _ _ _ h => h) (Or.inl ⟨by rfl, ?h21⟩) (by assumption) ?_
            case h21 => (intro w hSw; (try dsimp only at hSw); go_simp <;> (try with_reducible rfl))
            try simp only [Act.put, List.setIfInBounds_toArray, List.set_cons_zero, List.set_cons_succ, List.getElem_toArray, List.getElem_cons_zero, List.getElem_cons_succ]
            refine wpAnyH_ready (rs := [22]) (by kernel_rfl) (by simp) ?_
            refine AllReadyH.cons rfl (fun K hK => ?_) (AllReadyH.nil)
            go_simp
            (go_at_call 117; refine (uses_r _ f i k true _ hus hn HS.out hif hkm (HV.out.below (below_trans' hblW hHeld2.1))).mono ?_; rintro e w2 ⟨rfl, hbz2⟩)
            dsimp only
            refine hK.out _ _ ?_ (fun hHeld3 => ?_)
            · try dsimp only
              exact held_step (by assumption) (by assumption) hbW
            clear hK K
            try simp only [Act.put, List.setIfInBounds_toArray, List.set_cons_zero, List.set_cons_succ, List.getElem_toArray, List.getElem_cons_zero, List.getElem_cons_succ]
            refine wpAnyH_take (i := 23) (v := .bool true) rfl (by kernel_rfl) (by kernel_rfl) (by kernel_rfl) (fun _ _ _ h => h) (Or.inl ⟨by rfl, ?h23⟩) (by assumption) ?_
            case h23 => (intro w hSw; (try dsimp only at hSw); go_simp <;> (try with_reducible rfl))
            try simp only [Act.put, List.setIfInBounds_toArray, List.set_cons_zero, List.set_cons_succ, List.getElem_toArray, List.getElem_cons_zero, List.getElem_cons_succ]
            refine wpAnyH_done (by kernel_rfl) ?_ _
            have hblR := below_trans' hblW hHeld3.1
            go_wp2_with fail
            refine (HIH.out _ (HV.out.below hblR)).mono ?_
            rintro e w5 ⟨rfl, hb5⟩
            have hbl5 := below_trans' hblR hb5
            go_wp2_with fail
            go_roundw
            case rel => exact ⟨d + 1, Hd2.out hiE, by rw [← Hi1.out]; go_num, by rw [HA2.out] <;> go_num, hbl5⟩
            case measure => simp [intOf] <;> omega
    · have hid : decide ((i : Int) < (E : Int)) = false := decide_eq_false (by omega)
      have HX : Hid (altF f (N + 1) k = 1 + M) := Lib.hid (by rw [hU.out, ← Hd3.out hiE, ← HM.out])
      go_wp2_with fail
      refine (formulaEnd_e _ f k E _ HE.out hn HS.out hkf (HV.out.below hbl)).mono ?_
      rintro e W0 ⟨rfl, hb1⟩
      have hblW := below_trans' hbl hb1
      clear hb1
      go_wp2_with fail
      go_ret
      exact ⟨by rw [HX.out] <;> go_num, hblW⟩
theorem l19Needs_r (v : Value) (f : List Nd) (k x : Nat) (r : Bool) (w : World) (hr : usesB f k x = r) (hn : f.length ≤ 1048576) (hs : shapeN f = true) (hkd : ∀ i, i < f.length → inR (ndnth f i).kind 0 8 = true) (hkf : k < f.length) (hx : x < 1048576) (hv : RdNd w v f) :
    Calls Tryz.prog 116 #[v, .int .i64 k, .int .i64 x] w fun e w' => e = .returned (.bool r) ∧ Below w.heap.size w w' := by
  rw [← hr]; exact l19Needs_any v f k x w hn hs hkd hkf hx hv
theorem l19Fixed_r (b o : Nat) (k : Int) (r : Bool) (w : World) (hr : isFix k = r) (h : w.cell? ⟨b, o, none⟩ = some (.int .i64 k)) :
    Calls Tryz.prog 86 #[.pointer (some ⟨b, o, none⟩)] w fun e w' => e = .returned (.bool r) ∧ Below w.heap.size w w' :=
  (l19Fixed_any b o k w h).mono fun e w' q => ⟨by rw [← hr]; exact q.1, by rw [← q.2]; exact Below.refl _ _⟩
theorem l00MaxA_any (a b : Nat) (w : World) : Calls Tryz.prog 87 #[.int .i64 (a : Int), .int .i64 (b : Int)] w fun e w' => e = .returned (.int .i64 ((max a b : Nat) : Int)) ∧ w = w' := by
  by_cases h : b < a
  · have e : Hid (max a b = a) := Lib.hid (by omega)
    go_enter Tryz.func87, Tryz.ntmps87
    go_wp2_with fail
    go_ret
    exact ⟨by rw [e.out]; rfl, rfl⟩
  · have e : Hid (max a b = b) := Lib.hid (by omega)
    go_enter Tryz.func87, Tryz.ntmps87
    go_wp2_with fail
    go_ret
    exact ⟨by rw [e.out]; rfl, rfl⟩
set_option maxRecDepth 100000 in
set_option maxHeartbeats 8000000 in
theorem l19Chain_aux (v : Value) (f : List Nd) (hn : f.length ≤ 1048576) (hs : shapeN f = true) (hkd : ∀ i, i < f.length → inR (ndnth f i).kind 0 8 = true) :
    ∀ (N k : Nat) (w : World), N ≤ 1048576 → f.length - k ≤ N → k < f.length → RdNd w v f →
    Calls Tryz.prog 88 #[v, .int .i64 k] w fun e w' => e = .returned (.int .i64 (altF f N k : Nat)) ∧ Below w.heap.size w w' := by
  intro N
  induction N with
  | zero => intro k w _ h1 h2; omega
  | succ N ihN => ?_
  intro k w hN hkN hkf hv
  have IH := Lib.hid ihN
  clear ihN
  have HV := Lib.hid hv
  have HS := Lib.hid hs
  have HK := Lib.hid hkd
  obtain ⟨a, cap, rfl, hcap, hcm, _⟩ := hv
  unfold maxLen at hcm
  obtain ⟨n, hxn⟩ : ∃ n, n = f.length := ⟨_, rfl⟩
  obtain ⟨E, hE⟩ : ∃ E, E = endN f k := ⟨_, rfl⟩
  have hel := endN_le f k
  rw [← hE, ← hxn] at hel
  have hU : Hid (altF f (N + 1) k = 1 + alTo (altF f N) f k (E - (k + 1))) := Lib.hid (by rw [hE]; rfl)
  rw [← hxn] at hcap HV
  rw [← hxn]
  have Hxn := Lib.hid hxn
  have HE := Lib.hid hE
  have hkn : k < n := by omega
  have hnm : n ≤ 1048576 := by omega
  have hkm : k < 1048576 := by omega
  have HkN : Hid (∀ i, k < i → i < f.length → f.length - i ≤ N) := Lib.hid (fun i h1 h2 => by omega)
  have HB : Hid (∀ d, alTo (altF f N) f k d ≤ N) := Lib.hid fun d => alTo_le (altF_le f N) d
  have hN1 : N ≤ 1048575 := by omega
  clear hxn hE hs hkd hkN hN
  go_enter Tryz.func88, Tryz.ntmps88
  go_wp2_with fail
  refine (l19End_any _ f k _ hn HS.out HK.out hkf HV.out).mono ?_
  rw [← HE.out]
  rintro e w' ⟨rfl, rfl⟩
  go_wp2_with fail
  go_loopw [5, 7] (fun so si wr => ∃ d : Nat, d ≤ E - (k + 1) ∧ si = .int .i64 ((k + 1 + d : Nat) : Int) ∧ so = .int .i64 ((1 + alTo (altF f N) f k d : Nat) : Int) ∧ Below w.heap.size w wr) (fun _ si _ => E - (intOf si).toNat)
  case atStart => exact ⟨0, Nat.zero_le _, by simp, by rfl, Below.refl _ _⟩
  case round =>
    obtain ⟨d, hd, rfl, rfl, hbl⟩ := hrel
    obtain ⟨i, hi⟩ : ∃ i, i = k + 1 + d := ⟨_, rfl⟩
    rw [← hi]
    have hd2 : i < E → d + 1 ≤ E - (k + 1) := by omega
    have hd3 : ¬ i < E → d = E - (k + 1) := by omega
    have Hd2 := Lib.hid hd2
    have Hd3 := Lib.hid hd3
    have HA : Hid (alTo (altF f N) f k (d + 1) = if alC f k i = true then max (alTo (altF f N) f k d) (altF f N i) else alTo (altF f N) f k d) := Lib.hid (by rw [hi]; rfl)
    have HP : Hid (alC f k i = (isFix (ndnth f i).kind && decide ((ndnth f i).kind ≠ (ndnth f k).kind) && usesB f i k)) := Lib.hid rfl
    have hi1 : i + 1 = k + 1 + (d + 1) := by omega
    have Hi1 := Lib.hid hi1
    have hki : k < i := by omega
    have him : i ≤ 1048577 + E := by omega
    have hMl := HB.out d
    obtain ⟨M, hM⟩ : ∃ M, M = alTo (altF f N) f k d := ⟨_, rfl⟩
    rw [← hM] at HA hMl ⊢
    have HM := Lib.hid hM
    clear hi hd2 hd3 hd hi1 hM
    by_cases hiE : i < E
    · have hif : i < f.length := by have := Hxn.out; omega
      have hin : i < n := by omega
      obtain ⟨b, o, rfl, hb, g0, g1, g2, g3⟩ := RdNd.cells HV.out hif
      obtain ⟨b', o', he, _, p0, _, _, _⟩ := RdNd.cells HV.out hkf
      cases he
      have hid : decide ((i : Int) < (E : Int)) = true := decide_eq_true (by omega)
      have hIH : ∀ W, RdNd W (.slice (some ⟨b, o, none⟩) n cap) f → Calls Tryz.prog 88 #[.slice (some ⟨b, o, none⟩) n cap, .int .i64 i] W fun e w' => e = .returned (.int .i64 (altF f N i : Nat)) ∧ Below W.heap.size W w' := by
        intro W h
        rw [Hxn.out] at h ⊢
        exact IH.out i W (by omega) (HkN.out i hki hif) hif h
      have hXl := altF_le f N i
      obtain ⟨X, hX⟩ : ∃ X, X = altF f N i := ⟨_, rfl⟩
      rw [← hX] at HA hIH hXl
      have HIH := Lib.hid hIH
      obtain ⟨Y, hY⟩ : ∃ Y, Y = ndnth f i := ⟨_, rfl⟩
      obtain ⟨Z, hZ⟩ : ∃ Z, Z = ndnth f k := ⟨_, rfl⟩
      rw [← hY] at g0 g1 g2 g3 HP
      rw [← hZ] at p0 HP
      clear hY hZ hIH hX
      cases hfx : isFix Y.kind with
      | false =>
        have HA2 : Hid (alTo (altF f N) f k (d + 1) = M) := Lib.hid (by rw [HA.out, if_neg (by rw [HP.out, hfx]; simp)])
        obtain ⟨W0, hW0⟩ : ∃ W0, W0 = wr := ⟨_, rfl⟩
        rw [← hW0] at hbl ⊢
        have hblW := hbl
        clear hW0
        have q0 := (hblW.cell (by exact hb)).trans g0
        have q1 := (hblW.cell (by exact hb)).trans g1
        have q2 := (hblW.cell (by exact hb)).trans g2
        have q3 := (hblW.cell (by exact hb)).trans g3
        have r0 := (hblW.cell (by exact hb)).trans p0
        have hbW : b < W0.heap.size := Nat.lt_of_lt_of_le hb hblW.size
        have hd0 : Below W0.heap.size W0 W0.drew := Below.drew (Below.refl _ _)
        go_wp2_with fail
        refine wp_region_held_drew (S := fun W => Below W0.heap.size W0 W ∧ W.cell? ⟨b, o + i * 4, none⟩ = some (.int .i64 Y.kind) ∧ W.cell? ⟨b, o + i * 4 + 1, none⟩ = some (.int .i64 Y.var) ∧ W.cell? ⟨b, o + i * 4 + 2, none⟩ = some (.string Y.lab) ∧ W.cell? ⟨b, o + i * 4 + 3, none⟩ = some (.bool Y.neg) ∧ W.cell? ⟨b, o + k * 4, none⟩ = some (.int .i64 Z.kind)) (by kernel_rfl) ⟨hd0, q0, q1, q2, q3, r0⟩ (fun hHeld => ?_)
        refine wpAnyH_take (i := 0) (v := ?v0) rfl (by kernel_rfl) (by kernel_rfl) (by kernel_rfl) (fun _ _ _ h => h) (Or.inl ⟨by rfl, ?h0⟩) (by assumption) ?_
        case h0 => (intro w hSw; (try dsimp only at hSw); go_simp <;> (try with_reducible rfl))
        try simp only [Act.put, List.setIfInBounds_toArray, List.set_cons_zero, List.set_cons_succ, List.getElem_toArray, List.getElem_cons_zero, List.getElem_cons_succ]
        refine wpAnyH_take (i := 1) (v := ?v1) rfl (by kernel_rfl) (by kernel_rfl) (by kernel_rfl) (fun _ _ _ h => h) (Or.inl ⟨by rfl, ?h1⟩) (by assumption) ?_
        case h1 => (intro w hSw; (try dsimp only at hSw); go_simp <;> (try with_reducible rfl))
        try simp only [Act.put, List.setIfInBounds_toArray, List.set_cons_zero, List.set_cons_succ, List.getElem_toArray, List.getElem_cons_zero, List.getElem_cons_succ]
        refine wpAnyH_take (i := 2) (v := ?v2) rfl (by kernel_rfl) (by kernel_rfl) (by kernel_rfl) (fun _ _ _ h => h) (Or.inl ⟨by rfl, ?h2⟩) (by assumption) ?_
        case h2 => (intro w hSw; (try dsimp only at hSw); go_simp <;> (try with_reducible rfl))
        try simp only [Act.put, List.setIfInBounds_toArray, List.set_cons_zero, List.set_cons_succ, List.getElem_toArray, List.getElem_cons_zero, List.getElem_cons_succ]
        refine wpAnyH_ready (rs := [3]) (by kernel_rfl) (by simp) ?_
        refine AllReadyH.cons rfl (fun K hK => ?_) (AllReadyH.nil)
        go_simp
        (go_at_call 86; refine (l19Fixed_r b _ Y.kind false _ hfx hHeld.2.1).mono ?_; rintro e w1 ⟨rfl, hbz⟩)
        dsimp only
        refine hK.out _ _ ?_ (fun hHeld2 => ?_)
        · try dsimp only
          exact held_step (by assumption) (by assumption) hbW
        clear hK K
        try simp only [Act.put, List.setIfInBounds_toArray, List.set_cons_zero, List.set_cons_succ, List.getElem_toArray, List.getElem_cons_zero, List.getElem_cons_succ]
        refine wpAnyH_take (i := 4) (v := .bool false) rfl (by kernel_rfl) (by kernel_rfl) (by kernel_rfl) (fun _ _ _ h => h) (Or.inl ⟨by rfl, ?h4⟩) (by assumption) ?_
        case h4 => (intro w hSw; (try dsimp only at hSw); go_simp <;> (try with_reducible rfl))
        try simp only [Act.put, List.setIfInBounds_toArray, List.set_cons_zero, List.set_cons_succ, List.getElem_toArray, List.getElem_cons_zero, List.getElem_cons_succ]
        refine wpAnyH_take (i := 5) rfl (by kernel_rfl) (by kernel_rfl) (by kernel_rfl) (fun _ _ _ h => h) (Or.inr ⟨by rfl, rfl⟩) (by assumption) ?_
        try simp only [Act.put, List.setIfInBounds_toArray, List.set_cons_zero, List.set_cons_succ, List.getElem_toArray, List.getElem_cons_zero, List.getElem_cons_succ]
        refine wpAnyH_take (i := 6) rfl (by kernel_rfl) (by kernel_rfl) (by kernel_rfl) (fun _ _ _ h => h) (Or.inr ⟨by rfl, rfl⟩) (by assumption) ?_
        try simp only [Act.put, List.setIfInBounds_toArray, List.set_cons_zero, List.set_cons_succ, List.getElem_toArray, List.getElem_cons_zero, List.getElem_cons_succ]
        refine wpAnyH_take (i := 7) rfl (by kernel_rfl) (by kernel_rfl) (by kernel_rfl) (fun _ _ _ h => h) (Or.inr ⟨by rfl, rfl⟩) (by assumption) ?_
        try simp only [Act.put, List.setIfInBounds_toArray, List.set_cons_zero, List.set_cons_succ, List.getElem_toArray, List.getElem_cons_zero, List.getElem_cons_succ]
        refine wpAnyH_take (i := 8) rfl (by kernel_rfl) (by kernel_rfl) (by kernel_rfl) (fun _ _ _ h => h) (Or.inr ⟨by rfl, rfl⟩) (by assumption) ?_
        try simp only [Act.put, List.setIfInBounds_toArray, List.set_cons_zero, List.set_cons_succ, List.getElem_toArray, List.getElem_cons_zero, List.getElem_cons_succ]
        refine wpAnyH_take (i := 9) rfl (by kernel_rfl) (by kernel_rfl) (by kernel_rfl) (fun _ _ _ h => h) (Or.inr ⟨by rfl, rfl⟩) (by assumption) ?_
        try simp only [Act.put, List.setIfInBounds_toArray, List.set_cons_zero, List.set_cons_succ, List.getElem_toArray, List.getElem_cons_zero, List.getElem_cons_succ]
        refine wpAnyH_take (i := 10) rfl (by kernel_rfl) (by kernel_rfl) (by kernel_rfl) (fun _ _ _ h => h) (Or.inr ⟨by rfl, rfl⟩) (by assumption) ?_
        try simp only [Act.put, List.setIfInBounds_toArray, List.set_cons_zero, List.set_cons_succ, List.getElem_toArray, List.getElem_cons_zero, List.getElem_cons_succ]
        refine wpAnyH_take (i := 11) rfl (by kernel_rfl) (by kernel_rfl) (by kernel_rfl) (fun _ _ _ h => h) (Or.inr ⟨by rfl, rfl⟩) (by assumption) ?_
        try simp only [Act.put, List.setIfInBounds_toArray, List.set_cons_zero, List.set_cons_succ, List.getElem_toArray, List.getElem_cons_zero, List.getElem_cons_succ]
        refine wpAnyH_take (i := 12) rfl (by kernel_rfl) (by kernel_rfl) (by kernel_rfl) (fun _ _ _ h => h) (Or.inr ⟨by rfl, rfl⟩) (by assumption) ?_
        try simp only [Act.put, List.setIfInBounds_toArray, List.set_cons_zero, List.set_cons_succ, List.getElem_toArray, List.getElem_cons_zero, List.getElem_cons_succ]
        refine wpAnyH_take (i := 13) rfl (by kernel_rfl) (by kernel_rfl) (by kernel_rfl) (fun _ _ _ h => h) (Or.inr ⟨by rfl, rfl⟩) (by assumption) ?_
        try simp only [Act.put, List.setIfInBounds_toArray, List.set_cons_zero, List.set_cons_succ, List.getElem_toArray, List.getElem_cons_zero, List.getElem_cons_succ]
        refine wpAnyH_take (i := 14) rfl (by kernel_rfl) (by kernel_rfl) (by kernel_rfl) (fun _ _ _ h => h) (Or.inr ⟨by rfl, rfl⟩) (by assumption) ?_
        try simp only [Act.put, List.setIfInBounds_toArray, List.set_cons_zero, List.set_cons_succ, List.getElem_toArray, List.getElem_cons_zero, List.getElem_cons_succ]
        refine wpAnyH_take (i := 15) rfl (by kernel_rfl) (by kernel_rfl) (by kernel_rfl) (fun _ _ _ h => h) (Or.inr ⟨by rfl, rfl⟩) (by assumption) ?_
        try simp only [Act.put, List.setIfInBounds_toArray, List.set_cons_zero, List.set_cons_succ, List.getElem_toArray, List.getElem_cons_zero, List.getElem_cons_succ]
        refine wpAnyH_take (i := 16) (v := .bool false) rfl (by kernel_rfl) (by kernel_rfl) (by kernel_rfl) (fun _ _ _ h => h) (Or.inl ⟨by rfl, ?h16⟩) (by assumption) ?_
        case h16 => (intro w hSw; (try dsimp only at hSw); go_simp <;> (try with_reducible rfl))
        try simp only [Act.put, List.setIfInBounds_toArray, List.set_cons_zero, List.set_cons_succ, List.getElem_toArray, List.getElem_cons_zero, List.getElem_cons_succ]
        refine wpAnyH_take (i := 17) (v := .bool false) rfl (by kernel_rfl) (by kernel_rfl) (by kernel_rfl) (fun _ _ _ h => h) (Or.inl ⟨by rfl, ?h17⟩) (by assumption) ?_
        case h17 => (intro w hSw; (try dsimp only at hSw); go_simp <;> (try with_reducible rfl))
        try simp only [Act.put, List.setIfInBounds_toArray, List.set_cons_zero, List.set_cons_succ, List.getElem_toArray, List.getElem_cons_zero, List.getElem_cons_succ]
        refine wpAnyH_take (i := 18) rfl (by kernel_rfl) (by kernel_rfl) (by kernel_rfl) (fun _ _ _ h => h) (Or.inr ⟨by rfl, rfl⟩) (by assumption) ?_
        try simp only [Act.put, List.setIfInBounds_toArray, List.set_cons_zero, List.set_cons_succ, List.getElem_toArray, List.getElem_cons_zero, List.getElem_cons_succ]
        refine wpAnyH_take (i := 19) rfl (by kernel_rfl) (by kernel_rfl) (by kernel_rfl) (fun _ _ _ h => h) (Or.inr ⟨by rfl, rfl⟩) (by assumption) ?_
        try simp only [Act.put, List.setIfInBounds_toArray, List.set_cons_zero, List.set_cons_succ, List.getElem_toArray, List.getElem_cons_zero, List.getElem_cons_succ]
        refine wpAnyH_take (i := 20) rfl (by kernel_rfl) (by kernel_rfl) (by kernel_rfl) (fun _ _ _ h => h) (Or.inr ⟨by rfl, rfl⟩) (by assumption) ?_
        try simp only [Act.put, List.setIfInBounds_toArray, List.set_cons_zero, List.set_cons_succ, List.getElem_toArray, List.getElem_cons_zero, List.getElem_cons_succ]
        refine wpAnyH_take (i := 21) rfl (by kernel_rfl) (by kernel_rfl) (by kernel_rfl) (fun _ _ _ h => h) (Or.inr ⟨by rfl, rfl⟩) (by assumption) ?_
        try simp only [Act.put, List.setIfInBounds_toArray, List.set_cons_zero, List.set_cons_succ, List.getElem_toArray, List.getElem_cons_zero, List.getElem_cons_succ]
        refine wpAnyH_take (i := 22) (v := .bool false) rfl (by kernel_rfl) (by kernel_rfl) (by kernel_rfl) (fun _ _ _ h => h) (Or.inl ⟨by rfl, ?h22⟩) (by assumption) ?_
        case h22 => (intro w hSw; (try dsimp only at hSw); go_simp <;> (try with_reducible rfl))
        try simp only [Act.put, List.setIfInBounds_toArray, List.set_cons_zero, List.set_cons_succ, List.getElem_toArray, List.getElem_cons_zero, List.getElem_cons_succ]
        refine wpAnyH_done (by kernel_rfl) ?_ _
        have hblR := below_trans' hblW hHeld2.1
        go_wp2_with fail
        go_roundw
        case rel => exact ⟨d + 1, Hd2.out hiE, by rw [← Hi1.out]; go_num, by rw [HA2.out] <;> go_num, hblR⟩
        case measure => simp [intOf] <;> omega
      | true =>
        by_cases hne : Y.kind = Z.kind
        · have hnb : (Y.kind != Z.kind) = false := by simp [hne]
          have HA2 : Hid (alTo (altF f N) f k (d + 1) = M) := Lib.hid (by rw [HA.out, if_neg (by rw [HP.out, decide_eq_false (fun h => h hne)]; simp)])
          clear hne
          obtain ⟨W0, hW0⟩ : ∃ W0, W0 = wr := ⟨_, rfl⟩
          rw [← hW0] at hbl ⊢
          have hblW := hbl
          clear hW0
          have q0 := (hblW.cell (by exact hb)).trans g0
          have q1 := (hblW.cell (by exact hb)).trans g1
          have q2 := (hblW.cell (by exact hb)).trans g2
          have q3 := (hblW.cell (by exact hb)).trans g3
          have r0 := (hblW.cell (by exact hb)).trans p0
          have hbW : b < W0.heap.size := Nat.lt_of_lt_of_le hb hblW.size
          have hd0 : Below W0.heap.size W0 W0.drew := Below.drew (Below.refl _ _)
          go_wp2_with fail
          refine wp_region_held_drew (S := fun W => Below W0.heap.size W0 W ∧ W.cell? ⟨b, o + i * 4, none⟩ = some (.int .i64 Y.kind) ∧ W.cell? ⟨b, o + i * 4 + 1, none⟩ = some (.int .i64 Y.var) ∧ W.cell? ⟨b, o + i * 4 + 2, none⟩ = some (.string Y.lab) ∧ W.cell? ⟨b, o + i * 4 + 3, none⟩ = some (.bool Y.neg) ∧ W.cell? ⟨b, o + k * 4, none⟩ = some (.int .i64 Z.kind)) (by kernel_rfl) ⟨hd0, q0, q1, q2, q3, r0⟩ (fun hHeld => ?_)
          refine wpAnyH_take (i := 0) (v := ?v0) rfl (by kernel_rfl) (by kernel_rfl) (by kernel_rfl) (fun _ _ _ h => h) (Or.inl ⟨by rfl, ?h0⟩) (by assumption) ?_
          case h0 => (intro w hSw; (try dsimp only at hSw); go_simp <;> (try with_reducible rfl))
          try simp only [Act.put, List.setIfInBounds_toArray, List.set_cons_zero, List.set_cons_succ, List.getElem_toArray, List.getElem_cons_zero, List.getElem_cons_succ]
          refine wpAnyH_take (i := 1) (v := ?v1) rfl (by kernel_rfl) (by kernel_rfl) (by kernel_rfl) (fun _ _ _ h => h) (Or.inl ⟨by rfl, ?h1⟩) (by assumption) ?_
          case h1 => (intro w hSw; (try dsimp only at hSw); go_simp <;> (try with_reducible rfl))
          try simp only [Act.put, List.setIfInBounds_toArray, List.set_cons_zero, List.set_cons_succ, List.getElem_toArray, List.getElem_cons_zero, List.getElem_cons_succ]
          refine wpAnyH_take (i := 2) (v := ?v2) rfl (by kernel_rfl) (by kernel_rfl) (by kernel_rfl) (fun _ _ _ h => h) (Or.inl ⟨by rfl, ?h2⟩) (by assumption) ?_
          case h2 => (intro w hSw; (try dsimp only at hSw); go_simp <;> (try with_reducible rfl))
          try simp only [Act.put, List.setIfInBounds_toArray, List.set_cons_zero, List.set_cons_succ, List.getElem_toArray, List.getElem_cons_zero, List.getElem_cons_succ]
          refine wpAnyH_ready (rs := [3]) (by kernel_rfl) (by simp) ?_
          refine AllReadyH.cons rfl (fun K hK => ?_) (AllReadyH.nil)
          go_simp
          (go_at_call 86; refine (l19Fixed_r b _ Y.kind true _ hfx hHeld.2.1).mono ?_; rintro e w1 ⟨rfl, hbz⟩)
          dsimp only
          refine hK.out _ _ ?_ (fun hHeld2 => ?_)
          · try dsimp only
            exact held_step (by assumption) (by assumption) hbW
          clear hK K
          try simp only [Act.put, List.setIfInBounds_toArray, List.set_cons_zero, List.set_cons_succ, List.getElem_toArray, List.getElem_cons_zero, List.getElem_cons_succ]
          refine wpAnyH_take (i := 4) (v := .bool true) rfl (by kernel_rfl) (by kernel_rfl) (by kernel_rfl) (fun _ _ _ h => h) (Or.inl ⟨by rfl, ?h4⟩) (by assumption) ?_
          case h4 => (intro w hSw; (try dsimp only at hSw); go_simp <;> (try with_reducible rfl))
          try simp only [Act.put, List.setIfInBounds_toArray, List.set_cons_zero, List.set_cons_succ, List.getElem_toArray, List.getElem_cons_zero, List.getElem_cons_succ]
          refine wpAnyH_take (i := 5) (v := ?v5) rfl (by kernel_rfl) (by kernel_rfl) (by kernel_rfl) (fun _ _ _ h => h) (Or.inl ⟨by rfl, ?h5⟩) (by assumption) ?_
          case h5 => (intro w hSw; (try dsimp only at hSw); go_simp <;> (try with_reducible rfl))
          try simp only [Act.put, List.setIfInBounds_toArray, List.set_cons_zero, List.set_cons_succ, List.getElem_toArray, List.getElem_cons_zero, List.getElem_cons_succ]
          refine wpAnyH_take (i := 6) (v := ?v6) rfl (by kernel_rfl) (by kernel_rfl) (by kernel_rfl) (fun _ _ _ h => h) (Or.inl ⟨by rfl, ?h6⟩) (by assumption) ?_
          case h6 => (intro w hSw; (try dsimp only at hSw); go_simp <;> (try with_reducible rfl))
          try simp only [Act.put, List.setIfInBounds_toArray, List.set_cons_zero, List.set_cons_succ, List.getElem_toArray, List.getElem_cons_zero, List.getElem_cons_succ]
          refine wpAnyH_take (i := 7) (v := ?v7) rfl (by kernel_rfl) (by kernel_rfl) (by kernel_rfl) (fun _ _ _ h => h) (Or.inl ⟨by rfl, ?h7⟩) (by assumption) ?_
          case h7 => (intro w hSw; (try dsimp only at hSw); go_simp <;> (try with_reducible rfl))
          try simp only [Act.put, List.setIfInBounds_toArray, List.set_cons_zero, List.set_cons_succ, List.getElem_toArray, List.getElem_cons_zero, List.getElem_cons_succ]
          refine wpAnyH_take (i := 8) (v := ?v8) rfl (by kernel_rfl) (by kernel_rfl) (by kernel_rfl) (fun _ _ _ h => h) (Or.inl ⟨by rfl, ?h8⟩) (by assumption) ?_
          case h8 => (intro w hSw; (try dsimp only at hSw); go_simp <;> (try with_reducible rfl))
          try simp only [Act.put, List.setIfInBounds_toArray, List.set_cons_zero, List.set_cons_succ, List.getElem_toArray, List.getElem_cons_zero, List.getElem_cons_succ]
          refine wpAnyH_take (i := 9) (v := ?v9) rfl (by kernel_rfl) (by kernel_rfl) (by kernel_rfl) (fun _ _ _ h => h) (Or.inl ⟨by rfl, ?h9⟩) (by assumption) ?_
          case h9 => (intro w hSw; (try dsimp only at hSw); go_simp <;> (try with_reducible rfl))
          try simp only [Act.put, List.setIfInBounds_toArray, List.set_cons_zero, List.set_cons_succ, List.getElem_toArray, List.getElem_cons_zero, List.getElem_cons_succ]
          refine wpAnyH_take (i := 10) (v := ?v10) rfl (by kernel_rfl) (by kernel_rfl) (by kernel_rfl) (fun _ _ _ h => h) (Or.inl ⟨by rfl, ?h10⟩) (by assumption) ?_
          case h10 => (intro w hSw; (try dsimp only at hSw); go_simp <;> (try with_reducible rfl))
          try simp only [Act.put, List.setIfInBounds_toArray, List.set_cons_zero, List.set_cons_succ, List.getElem_toArray, List.getElem_cons_zero, List.getElem_cons_succ]
          refine wpAnyH_take (i := 11) (v := ?v11) rfl (by kernel_rfl) (by kernel_rfl) (by kernel_rfl) (fun _ _ _ h => h) (Or.inl ⟨by rfl, ?h11⟩) (by assumption) ?_
          case h11 => (intro w hSw; (try dsimp only at hSw); go_simp <;> (try with_reducible rfl))
          try simp only [Act.put, List.setIfInBounds_toArray, List.set_cons_zero, List.set_cons_succ, List.getElem_toArray, List.getElem_cons_zero, List.getElem_cons_succ]
          refine wpAnyH_take (i := 12) (v := ?v12) rfl (by kernel_rfl) (by kernel_rfl) (by kernel_rfl) (fun _ _ _ h => h) (Or.inl ⟨by rfl, ?h12⟩) (by assumption) ?_
          case h12 => (intro w hSw; (try dsimp only at hSw); go_simp <;> (try with_reducible rfl))
          try simp only [Act.put, List.setIfInBounds_toArray, List.set_cons_zero, List.set_cons_succ, List.getElem_toArray, List.getElem_cons_zero, List.getElem_cons_succ]
          refine wpAnyH_take (i := 13) (v := ?v13) rfl (by kernel_rfl) (by kernel_rfl) (by kernel_rfl) (fun _ _ _ h => h) (Or.inl ⟨by rfl, ?h13⟩) (by assumption) ?_
          case h13 => (intro w hSw; (try dsimp only at hSw); go_simp <;> (try with_reducible rfl))
          try simp only [Act.put, List.setIfInBounds_toArray, List.set_cons_zero, List.set_cons_succ, List.getElem_toArray, List.getElem_cons_zero, List.getElem_cons_succ]
          refine wpAnyH_take (i := 14) (v := ?v14) rfl (by kernel_rfl) (by kernel_rfl) (by kernel_rfl) (fun _ _ _ h => h) (Or.inl ⟨by rfl, ?h14⟩) (by assumption) ?_
          case h14 => (intro w hSw; (try dsimp only at hSw); go_simp <;> (try with_reducible rfl))
          try simp only [Act.put, List.setIfInBounds_toArray, List.set_cons_zero, List.set_cons_succ, List.getElem_toArray, List.getElem_cons_zero, List.getElem_cons_succ]
          refine wpAnyH_take (i := 15) (v := .bool false) rfl (by kernel_rfl) (by kernel_rfl) (by kernel_rfl) (fun _ _ _ h => h) (Or.inl ⟨by rfl, ?h15⟩) (by assumption) ?_
          case h15 => (intro w hSw; (try dsimp only at hSw); go_simp <;> (try with_reducible rfl))
          try simp only [Act.put, List.setIfInBounds_toArray, List.set_cons_zero, List.set_cons_succ, List.getElem_toArray, List.getElem_cons_zero, List.getElem_cons_succ]
          refine wpAnyH_take (i := 16) (v := .bool false) rfl (by kernel_rfl) (by kernel_rfl) (by kernel_rfl) (fun _ _ _ h => h) (Or.inl ⟨by rfl, ?h16⟩) (by assumption) ?_
          case h16 => (intro w hSw; (try dsimp only at hSw); go_simp <;> (try with_reducible rfl))
          try simp only [Act.put, List.setIfInBounds_toArray, List.set_cons_zero, List.set_cons_succ, List.getElem_toArray, List.getElem_cons_zero, List.getElem_cons_succ]
          refine wpAnyH_take (i := 17) (v := .bool false) rfl (by kernel_rfl) (by kernel_rfl) (by kernel_rfl) (fun _ _ _ h => h) (Or.inl ⟨by rfl, ?h17⟩) (by assumption) ?_
          case h17 => (intro w hSw; (try dsimp only at hSw); go_simp <;> (try with_reducible rfl))
          try simp only [Act.put, List.setIfInBounds_toArray, List.set_cons_zero, List.set_cons_succ, List.getElem_toArray, List.getElem_cons_zero, List.getElem_cons_succ]
          refine wpAnyH_take (i := 18) rfl (by kernel_rfl) (by kernel_rfl) (by kernel_rfl) (fun _ _ _ h => h) (Or.inr ⟨by rfl, rfl⟩) (by assumption) ?_
          try simp only [Act.put, List.setIfInBounds_toArray, List.set_cons_zero, List.set_cons_succ, List.getElem_toArray, List.getElem_cons_zero, List.getElem_cons_succ]
          refine wpAnyH_take (i := 19) rfl (by kernel_rfl) (by kernel_rfl) (by kernel_rfl) (fun _ _ _ h => h) (Or.inr ⟨by rfl, rfl⟩) (by assumption) ?_
          try simp only [Act.put, List.setIfInBounds_toArray, List.set_cons_zero, List.set_cons_succ, List.getElem_toArray, List.getElem_cons_zero, List.getElem_cons_succ]
          refine wpAnyH_take (i := 20) rfl (by kernel_rfl) (by kernel_rfl) (by kernel_rfl) (fun _ _ _ h => h) (Or.inr ⟨by rfl, rfl⟩) (by assumption) ?_
          try simp only [Act.put, List.setIfInBounds_toArray, List.set_cons_zero, List.set_cons_succ, List.getElem_toArray, List.getElem_cons_zero, List.getElem_cons_succ]
          refine wpAnyH_take (i := 21) rfl (by kernel_rfl) (by kernel_rfl) (by kernel_rfl) (fun _ _ _ h => h) (Or.inr ⟨by rfl, rfl⟩) (by assumption) ?_
          try simp only [Act.put, List.setIfInBounds_toArray, List.set_cons_zero, List.set_cons_succ, List.getElem_toArray, List.getElem_cons_zero, List.getElem_cons_succ]
          refine wpAnyH_take (i := 22) (v := .bool false) rfl (by kernel_rfl) (by kernel_rfl) (by kernel_rfl) (fun _ _ _ h => h) (Or.inl ⟨by rfl, ?h22⟩) (by assumption) ?_
          case h22 => (intro w hSw; (try dsimp only at hSw); go_simp <;> (try with_reducible rfl))
          try simp only [Act.put, List.setIfInBounds_toArray, List.set_cons_zero, List.set_cons_succ, List.getElem_toArray, List.getElem_cons_zero, List.getElem_cons_succ]
          refine wpAnyH_done (by kernel_rfl) ?_ _
          have hblR := below_trans' hblW hHeld2.1
          go_wp2_with fail
          go_roundw
          case rel => exact ⟨d + 1, Hd2.out hiE, by rw [← Hi1.out]; go_num, by rw [HA2.out] <;> go_num, hblR⟩
          case measure => simp [intOf] <;> omega
        · have hnb : (Y.kind != Z.kind) = true := by simp [hne]
          cases hus : usesB f i k with
          | false =>
            have HA2 : Hid (alTo (altF f N) f k (d + 1) = M) := Lib.hid (by rw [HA.out, if_neg (by rw [HP.out, hus]; simp)])
            clear hne
            obtain ⟨W0, hW0⟩ : ∃ W0, W0 = wr := ⟨_, rfl⟩
            rw [← hW0] at hbl ⊢
            have hblW := hbl
            clear hW0
            have q0 := (hblW.cell (by exact hb)).trans g0
            have q1 := (hblW.cell (by exact hb)).trans g1
            have q2 := (hblW.cell (by exact hb)).trans g2
            have q3 := (hblW.cell (by exact hb)).trans g3
            have r0 := (hblW.cell (by exact hb)).trans p0
            have hbW : b < W0.heap.size := Nat.lt_of_lt_of_le hb hblW.size
            have hd0 : Below W0.heap.size W0 W0.drew := Below.drew (Below.refl _ _)
            go_wp2_with fail
            refine wp_region_held_drew (S := fun W => Below W0.heap.size W0 W ∧ W.cell? ⟨b, o + i * 4, none⟩ = some (.int .i64 Y.kind) ∧ W.cell? ⟨b, o + i * 4 + 1, none⟩ = some (.int .i64 Y.var) ∧ W.cell? ⟨b, o + i * 4 + 2, none⟩ = some (.string Y.lab) ∧ W.cell? ⟨b, o + i * 4 + 3, none⟩ = some (.bool Y.neg) ∧ W.cell? ⟨b, o + k * 4, none⟩ = some (.int .i64 Z.kind)) (by kernel_rfl) ⟨hd0, q0, q1, q2, q3, r0⟩ (fun hHeld => ?_)
            refine wpAnyH_take (i := 0) (v := ?v0) rfl (by kernel_rfl) (by kernel_rfl) (by kernel_rfl) (fun _ _ _ h => h) (Or.inl ⟨by rfl, ?h0⟩) (by assumption) ?_
            case h0 => (intro w hSw; (try dsimp only at hSw); go_simp <;> (try with_reducible rfl))
            try simp only [Act.put, List.setIfInBounds_toArray, List.set_cons_zero, List.set_cons_succ, List.getElem_toArray, List.getElem_cons_zero, List.getElem_cons_succ]
            refine wpAnyH_take (i := 1) (v := ?v1) rfl (by kernel_rfl) (by kernel_rfl) (by kernel_rfl) (fun _ _ _ h => h) (Or.inl ⟨by rfl, ?h1⟩) (by assumption) ?_
            case h1 => (intro w hSw; (try dsimp only at hSw); go_simp <;> (try with_reducible rfl))
            try simp only [Act.put, List.setIfInBounds_toArray, List.set_cons_zero, List.set_cons_succ, List.getElem_toArray, List.getElem_cons_zero, List.getElem_cons_succ]
            refine wpAnyH_take (i := 2) (v := ?v2) rfl (by kernel_rfl) (by kernel_rfl) (by kernel_rfl) (fun _ _ _ h => h) (Or.inl ⟨by rfl, ?h2⟩) (by assumption) ?_
            case h2 => (intro w hSw; (try dsimp only at hSw); go_simp <;> (try with_reducible rfl))
            try simp only [Act.put, List.setIfInBounds_toArray, List.set_cons_zero, List.set_cons_succ, List.getElem_toArray, List.getElem_cons_zero, List.getElem_cons_succ]
            refine wpAnyH_ready (rs := [3]) (by kernel_rfl) (by simp) ?_
            refine AllReadyH.cons rfl (fun K hK => ?_) (AllReadyH.nil)
            go_simp
            (go_at_call 86; refine (l19Fixed_r b _ Y.kind true _ hfx hHeld.2.1).mono ?_; rintro e w1 ⟨rfl, hbz⟩)
            dsimp only
            refine hK.out _ _ ?_ (fun hHeld2 => ?_)
            · try dsimp only
              exact held_step (by assumption) (by assumption) hbW
            clear hK K
            try simp only [Act.put, List.setIfInBounds_toArray, List.set_cons_zero, List.set_cons_succ, List.getElem_toArray, List.getElem_cons_zero, List.getElem_cons_succ]
            refine wpAnyH_take (i := 4) (v := .bool true) rfl (by kernel_rfl) (by kernel_rfl) (by kernel_rfl) (fun _ _ _ h => h) (Or.inl ⟨by rfl, ?h4⟩) (by assumption) ?_
            case h4 => (intro w hSw; (try dsimp only at hSw); go_simp <;> (try with_reducible rfl))
            try simp only [Act.put, List.setIfInBounds_toArray, List.set_cons_zero, List.set_cons_succ, List.getElem_toArray, List.getElem_cons_zero, List.getElem_cons_succ]
            refine wpAnyH_take (i := 5) (v := ?v5) rfl (by kernel_rfl) (by kernel_rfl) (by kernel_rfl) (fun _ _ _ h => h) (Or.inl ⟨by rfl, ?h5⟩) (by assumption) ?_
            case h5 => (intro w hSw; (try dsimp only at hSw); go_simp <;> (try with_reducible rfl))
            try simp only [Act.put, List.setIfInBounds_toArray, List.set_cons_zero, List.set_cons_succ, List.getElem_toArray, List.getElem_cons_zero, List.getElem_cons_succ]
            refine wpAnyH_take (i := 6) (v := ?v6) rfl (by kernel_rfl) (by kernel_rfl) (by kernel_rfl) (fun _ _ _ h => h) (Or.inl ⟨by rfl, ?h6⟩) (by assumption) ?_
            case h6 => (intro w hSw; (try dsimp only at hSw); go_simp <;> (try with_reducible rfl))
            try simp only [Act.put, List.setIfInBounds_toArray, List.set_cons_zero, List.set_cons_succ, List.getElem_toArray, List.getElem_cons_zero, List.getElem_cons_succ]
            refine wpAnyH_take (i := 7) (v := ?v7) rfl (by kernel_rfl) (by kernel_rfl) (by kernel_rfl) (fun _ _ _ h => h) (Or.inl ⟨by rfl, ?h7⟩) (by assumption) ?_
            case h7 => (intro w hSw; (try dsimp only at hSw); go_simp <;> (try with_reducible rfl))
            try simp only [Act.put, List.setIfInBounds_toArray, List.set_cons_zero, List.set_cons_succ, List.getElem_toArray, List.getElem_cons_zero, List.getElem_cons_succ]
            refine wpAnyH_take (i := 8) (v := ?v8) rfl (by kernel_rfl) (by kernel_rfl) (by kernel_rfl) (fun _ _ _ h => h) (Or.inl ⟨by rfl, ?h8⟩) (by assumption) ?_
            case h8 => (intro w hSw; (try dsimp only at hSw); go_simp <;> (try with_reducible rfl))
            try simp only [Act.put, List.setIfInBounds_toArray, List.set_cons_zero, List.set_cons_succ, List.getElem_toArray, List.getElem_cons_zero, List.getElem_cons_succ]
            refine wpAnyH_take (i := 9) (v := ?v9) rfl (by kernel_rfl) (by kernel_rfl) (by kernel_rfl) (fun _ _ _ h => h) (Or.inl ⟨by rfl, ?h9⟩) (by assumption) ?_
            case h9 => (intro w hSw; (try dsimp only at hSw); go_simp <;> (try with_reducible rfl))
            try simp only [Act.put, List.setIfInBounds_toArray, List.set_cons_zero, List.set_cons_succ, List.getElem_toArray, List.getElem_cons_zero, List.getElem_cons_succ]
            refine wpAnyH_take (i := 10) (v := ?v10) rfl (by kernel_rfl) (by kernel_rfl) (by kernel_rfl) (fun _ _ _ h => h) (Or.inl ⟨by rfl, ?h10⟩) (by assumption) ?_
            case h10 => (intro w hSw; (try dsimp only at hSw); go_simp <;> (try with_reducible rfl))
            try simp only [Act.put, List.setIfInBounds_toArray, List.set_cons_zero, List.set_cons_succ, List.getElem_toArray, List.getElem_cons_zero, List.getElem_cons_succ]
            refine wpAnyH_take (i := 11) (v := ?v11) rfl (by kernel_rfl) (by kernel_rfl) (by kernel_rfl) (fun _ _ _ h => h) (Or.inl ⟨by rfl, ?h11⟩) (by assumption) ?_
            case h11 => (intro w hSw; (try dsimp only at hSw); go_simp <;> (try with_reducible rfl))
            try simp only [Act.put, List.setIfInBounds_toArray, List.set_cons_zero, List.set_cons_succ, List.getElem_toArray, List.getElem_cons_zero, List.getElem_cons_succ]
            refine wpAnyH_take (i := 12) (v := ?v12) rfl (by kernel_rfl) (by kernel_rfl) (by kernel_rfl) (fun _ _ _ h => h) (Or.inl ⟨by rfl, ?h12⟩) (by assumption) ?_
            case h12 => (intro w hSw; (try dsimp only at hSw); go_simp <;> (try with_reducible rfl))
            try simp only [Act.put, List.setIfInBounds_toArray, List.set_cons_zero, List.set_cons_succ, List.getElem_toArray, List.getElem_cons_zero, List.getElem_cons_succ]
            refine wpAnyH_take (i := 13) (v := ?v13) rfl (by kernel_rfl) (by kernel_rfl) (by kernel_rfl) (fun _ _ _ h => h) (Or.inl ⟨by rfl, ?h13⟩) (by assumption) ?_
            case h13 => (intro w hSw; (try dsimp only at hSw); go_simp <;> (try with_reducible rfl))
            try simp only [Act.put, List.setIfInBounds_toArray, List.set_cons_zero, List.set_cons_succ, List.getElem_toArray, List.getElem_cons_zero, List.getElem_cons_succ]
            refine wpAnyH_take (i := 14) (v := ?v14) rfl (by kernel_rfl) (by kernel_rfl) (by kernel_rfl) (fun _ _ _ h => h) (Or.inl ⟨by rfl, ?h14⟩) (by assumption) ?_
            case h14 => (intro w hSw; (try dsimp only at hSw); go_simp <;> (try with_reducible rfl))
            try simp only [Act.put, List.setIfInBounds_toArray, List.set_cons_zero, List.set_cons_succ, List.getElem_toArray, List.getElem_cons_zero, List.getElem_cons_succ]
            refine wpAnyH_take (i := 15) (v := .bool true) rfl (by kernel_rfl) (by kernel_rfl) (by kernel_rfl) (fun _ _ _ h => h) (Or.inl ⟨by rfl, ?h15⟩) (by assumption) ?_
            case h15 => (intro w hSw; (try dsimp only at hSw); go_simp <;> (try with_reducible rfl))
            try simp only [Act.put, List.setIfInBounds_toArray, List.set_cons_zero, List.set_cons_succ, List.getElem_toArray, List.getElem_cons_zero, List.getElem_cons_succ]
            refine wpAnyH_take (i := 16) (v := .bool true) rfl (by kernel_rfl) (by kernel_rfl) (by kernel_rfl) (fun _ _ _ h => h) (Or.inl ⟨by rfl, ?h16⟩) (by assumption) ?_
            case h16 => (intro w hSw; (try dsimp only at hSw); go_simp <;> (try with_reducible rfl))
            try simp only [Act.put, List.setIfInBounds_toArray, List.set_cons_zero, List.set_cons_succ, List.getElem_toArray, List.getElem_cons_zero, List.getElem_cons_succ]
            refine wpAnyH_take (i := 17) (v := .bool true) rfl (by kernel_rfl) (by kernel_rfl) (by kernel_rfl) (fun _ _ _ h => h) (Or.inl ⟨by rfl, ?h17⟩) (by assumption) ?_
            case h17 => (intro w hSw; (try dsimp only at hSw); go_simp <;> (try with_reducible rfl))
            try simp only [Act.put, List.setIfInBounds_toArray, List.set_cons_zero, List.set_cons_succ, List.getElem_toArray, List.getElem_cons_zero, List.getElem_cons_succ]
            refine wpAnyH_take (i := 18) (v := ?v18) rfl (by kernel_rfl) (by kernel_rfl) (by kernel_rfl) (fun _ _ _ h => h) (Or.inl ⟨by rfl, ?h18⟩) (by assumption) ?_
            case h18 => (intro w hSw; (try dsimp only at hSw); go_simp <;> (try with_reducible rfl))
            try simp only [Act.put, List.setIfInBounds_toArray, List.set_cons_zero, List.set_cons_succ, List.getElem_toArray, List.getElem_cons_zero, List.getElem_cons_succ]
            refine wpAnyH_take (i := 19) (v := ?v19) rfl (by kernel_rfl) (by kernel_rfl) (by kernel_rfl) (fun _ _ _ h => h) (Or.inl ⟨by rfl, ?h19⟩) (by assumption) ?_
            case h19 => (intro w hSw; (try dsimp only at hSw); go_simp <;> (try with_reducible rfl))
            try simp only [Act.put, List.setIfInBounds_toArray, List.set_cons_zero, List.set_cons_succ, List.getElem_toArray, List.getElem_cons_zero, List.getElem_cons_succ]
            refine wpAnyH_take (i := 20) (v := ?v20) rfl (by kernel_rfl) (by kernel_rfl) (by kernel_rfl) (fun _ _ _ h => h) (Or.inl ⟨by rfl, ?h20⟩) (by assumption) ?_
            case h20 => (intro w hSw; (try dsimp only at hSw); go_simp <;> (try with_reducible rfl))
            try simp only [Act.put, List.setIfInBounds_toArray, List.set_cons_zero, List.set_cons_succ, List.getElem_toArray, List.getElem_cons_zero, List.getElem_cons_succ]
            refine wpAnyH_ready (rs := [21]) (by kernel_rfl) (by simp) ?_
            refine AllReadyH.cons rfl (fun K hK => ?_) (AllReadyH.nil)
            go_simp
            (go_at_call 116; refine (l19Needs_r _ f i k false _ hus hn HS.out HK.out hif hkm (HV.out.below (below_trans' hblW hHeld2.1))).mono ?_; rintro e w2 ⟨rfl, hbz2⟩)
            dsimp only
            refine hK.out _ _ ?_ (fun hHeld3 => ?_)
            · try dsimp only
              exact held_step (by assumption) (by assumption) hbW
            clear hK K
            try simp only [Act.put, List.setIfInBounds_toArray, List.set_cons_zero, List.set_cons_succ, List.getElem_toArray, List.getElem_cons_zero, List.getElem_cons_succ]
            refine wpAnyH_take (i := 22) (v := .bool false) rfl (by kernel_rfl) (by kernel_rfl) (by kernel_rfl) (fun _ _ _ h => h) (Or.inl ⟨by rfl, ?h22⟩) (by assumption) ?_
            case h22 => (intro w hSw; (try dsimp only at hSw); go_simp <;> (try with_reducible rfl))
            try simp only [Act.put, List.setIfInBounds_toArray, List.set_cons_zero, List.set_cons_succ, List.getElem_toArray, List.getElem_cons_zero, List.getElem_cons_succ]
            refine wpAnyH_done (by kernel_rfl) ?_ _
            have hblR := below_trans' hblW hHeld3.1
            go_wp2_with fail
            go_roundw
            case rel => exact ⟨d + 1, Hd2.out hiE, by rw [← Hi1.out]; go_num, by rw [HA2.out] <;> go_num, hblR⟩
            case measure => simp [intOf] <;> omega
          | true =>
            have HA2 : Hid (alTo (altF f N) f k (d + 1) = max M X) := Lib.hid (by rw [HA.out, if_pos (by rw [HP.out, hus, hfx, decide_eq_true hne]; rfl)])
            clear hne
            obtain ⟨W0, hW0⟩ : ∃ W0, W0 = wr := ⟨_, rfl⟩
            rw [← hW0] at hbl ⊢
            have hblW := hbl
            clear hW0
            have q0 := (hblW.cell (by exact hb)).trans g0
            have q1 := (hblW.cell (by exact hb)).trans g1
            have q2 := (hblW.cell (by exact hb)).trans g2
            have q3 := (hblW.cell (by exact hb)).trans g3
            have r0 := (hblW.cell (by exact hb)).trans p0
            have hbW : b < W0.heap.size := Nat.lt_of_lt_of_le hb hblW.size
            have hd0 : Below W0.heap.size W0 W0.drew := Below.drew (Below.refl _ _)
            go_wp2_with fail
            refine wp_region_held_drew (S := fun W => Below W0.heap.size W0 W ∧ W.cell? ⟨b, o + i * 4, none⟩ = some (.int .i64 Y.kind) ∧ W.cell? ⟨b, o + i * 4 + 1, none⟩ = some (.int .i64 Y.var) ∧ W.cell? ⟨b, o + i * 4 + 2, none⟩ = some (.string Y.lab) ∧ W.cell? ⟨b, o + i * 4 + 3, none⟩ = some (.bool Y.neg) ∧ W.cell? ⟨b, o + k * 4, none⟩ = some (.int .i64 Z.kind)) (by kernel_rfl) ⟨hd0, q0, q1, q2, q3, r0⟩ (fun hHeld => ?_)
            refine wpAnyH_take (i := 0) (v := ?v0) rfl (by kernel_rfl) (by kernel_rfl) (by kernel_rfl) (fun _ _ _ h => h) (Or.inl ⟨by rfl, ?h0⟩) (by assumption) ?_
            case h0 => (intro w hSw; (try dsimp only at hSw); go_simp <;> (try with_reducible rfl))
            try simp only [Act.put, List.setIfInBounds_toArray, List.set_cons_zero, List.set_cons_succ, List.getElem_toArray, List.getElem_cons_zero, List.getElem_cons_succ]
            refine wpAnyH_take (i := 1) (v := ?v1) rfl (by kernel_rfl) (by kernel_rfl) (by kernel_rfl) (fun _ _ _ h => h) (Or.inl ⟨by rfl, ?h1⟩) (by assumption) ?_
            case h1 => (intro w hSw; (try dsimp only at hSw); go_simp <;> (try with_reducible rfl))
            try simp only [Act.put, List.setIfInBounds_toArray, List.set_cons_zero, List.set_cons_succ, List.getElem_toArray, List.getElem_cons_zero, List.getElem_cons_succ]
            refine wpAnyH_take (i := 2) (v := ?v2) rfl (by kernel_rfl) (by kernel_rfl) (by kernel_rfl) (fun _ _ _ h => h) (Or.inl ⟨by rfl, ?h2⟩) (by assumption) ?_
            case h2 => (intro w hSw; (try dsimp only at hSw); go_simp <;> (try with_reducible rfl))
            try simp only [Act.put, List.setIfInBounds_toArray, List.set_cons_zero, List.set_cons_succ, List.getElem_toArray, List.getElem_cons_zero, List.getElem_cons_succ]
            refine wpAnyH_ready (rs := [3]) (by kernel_rfl) (by simp) ?_
            refine AllReadyH.cons rfl (fun K hK => ?_) (AllReadyH.nil)
            go_simp
            (go_at_call 86; refine (l19Fixed_r b _ Y.kind true _ hfx hHeld.2.1).mono ?_; rintro e w1 ⟨rfl, hbz⟩)
            dsimp only
            refine hK.out _ _ ?_ (fun hHeld2 => ?_)
            · try dsimp only
              exact held_step (by assumption) (by assumption) hbW
            clear hK K
            try simp only [Act.put, List.setIfInBounds_toArray, List.set_cons_zero, List.set_cons_succ, List.getElem_toArray, List.getElem_cons_zero, List.getElem_cons_succ]
            refine wpAnyH_take (i := 4) (v := .bool true) rfl (by kernel_rfl) (by kernel_rfl) (by kernel_rfl) (fun _ _ _ h => h) (Or.inl ⟨by rfl, ?h4⟩) (by assumption) ?_
            case h4 => (intro w hSw; (try dsimp only at hSw); go_simp <;> (try with_reducible rfl))
            try simp only [Act.put, List.setIfInBounds_toArray, List.set_cons_zero, List.set_cons_succ, List.getElem_toArray, List.getElem_cons_zero, List.getElem_cons_succ]
            refine wpAnyH_take (i := 5) (v := ?v5) rfl (by kernel_rfl) (by kernel_rfl) (by kernel_rfl) (fun _ _ _ h => h) (Or.inl ⟨by rfl, ?h5⟩) (by assumption) ?_
            case h5 => (intro w hSw; (try dsimp only at hSw); go_simp <;> (try with_reducible rfl))
            try simp only [Act.put, List.setIfInBounds_toArray, List.set_cons_zero, List.set_cons_succ, List.getElem_toArray, List.getElem_cons_zero, List.getElem_cons_succ]
            refine wpAnyH_take (i := 6) (v := ?v6) rfl (by kernel_rfl) (by kernel_rfl) (by kernel_rfl) (fun _ _ _ h => h) (Or.inl ⟨by rfl, ?h6⟩) (by assumption) ?_
            case h6 => (intro w hSw; (try dsimp only at hSw); go_simp <;> (try with_reducible rfl))
            try simp only [Act.put, List.setIfInBounds_toArray, List.set_cons_zero, List.set_cons_succ, List.getElem_toArray, List.getElem_cons_zero, List.getElem_cons_succ]
            refine wpAnyH_take (i := 7) (v := ?v7) rfl (by kernel_rfl) (by kernel_rfl) (by kernel_rfl) (fun _ _ _ h => h) (Or.inl ⟨by rfl, ?h7⟩) (by assumption) ?_
            case h7 => (intro w hSw; (try dsimp only at hSw); go_simp <;> (try with_reducible rfl))
            try simp only [Act.put, List.setIfInBounds_toArray, List.set_cons_zero, List.set_cons_succ, List.getElem_toArray, List.getElem_cons_zero, List.getElem_cons_succ]
            refine wpAnyH_take (i := 8) (v := ?v8) rfl (by kernel_rfl) (by kernel_rfl) (by kernel_rfl) (fun _ _ _ h => h) (Or.inl ⟨by rfl, ?h8⟩) (by assumption) ?_
            case h8 => (intro w hSw; (try dsimp only at hSw); go_simp <;> (try with_reducible rfl))
            try simp only [Act.put, List.setIfInBounds_toArray, List.set_cons_zero, List.set_cons_succ, List.getElem_toArray, List.getElem_cons_zero, List.getElem_cons_succ]
            refine wpAnyH_take (i := 9) (v := ?v9) rfl (by kernel_rfl) (by kernel_rfl) (by kernel_rfl) (fun _ _ _ h => h) (Or.inl ⟨by rfl, ?h9⟩) (by assumption) ?_
            case h9 => (intro w hSw; (try dsimp only at hSw); go_simp <;> (try with_reducible rfl))
            try simp only [Act.put, List.setIfInBounds_toArray, List.set_cons_zero, List.set_cons_succ, List.getElem_toArray, List.getElem_cons_zero, List.getElem_cons_succ]
            refine wpAnyH_take (i := 10) (v := ?v10) rfl (by kernel_rfl) (by kernel_rfl) (by kernel_rfl) (fun _ _ _ h => h) (Or.inl ⟨by rfl, ?h10⟩) (by assumption) ?_
            case h10 => (intro w hSw; (try dsimp only at hSw); go_simp <;> (try with_reducible rfl))
            try simp only [Act.put, List.setIfInBounds_toArray, List.set_cons_zero, List.set_cons_succ, List.getElem_toArray, List.getElem_cons_zero, List.getElem_cons_succ]
            refine wpAnyH_take (i := 11) (v := ?v11) rfl (by kernel_rfl) (by kernel_rfl) (by kernel_rfl) (fun _ _ _ h => h) (Or.inl ⟨by rfl, ?h11⟩) (by assumption) ?_
            case h11 => (intro w hSw; (try dsimp only at hSw); go_simp <;> (try with_reducible rfl))
            try simp only [Act.put, List.setIfInBounds_toArray, List.set_cons_zero, List.set_cons_succ, List.getElem_toArray, List.getElem_cons_zero, List.getElem_cons_succ]
            refine wpAnyH_take (i := 12) (v := ?v12) rfl (by kernel_rfl) (by kernel_rfl) (by kernel_rfl) (fun _ _ _ h => h) (Or.inl ⟨by rfl, ?h12⟩) (by assumption) ?_
            case h12 => (intro w hSw; (try dsimp only at hSw); go_simp <;> (try with_reducible rfl))
            try simp only [Act.put, List.setIfInBounds_toArray, List.set_cons_zero, List.set_cons_succ, List.getElem_toArray, List.getElem_cons_zero, List.getElem_cons_succ]
            refine wpAnyH_take (i := 13) (v := ?v13) rfl (by kernel_rfl) (by kernel_rfl) (by kernel_rfl) (fun _ _ _ h => h) (Or.inl ⟨by rfl, ?h13⟩) (by assumption) ?_
            case h13 => (intro w hSw; (try dsimp only at hSw); go_simp <;> (try with_reducible rfl))
            try simp only [Act.put, List.setIfInBounds_toArray, List.set_cons_zero, List.set_cons_succ, List.getElem_toArray, List.getElem_cons_zero, List.getElem_cons_succ]
            refine wpAnyH_take (i := 14) (v := ?v14) rfl (by kernel_rfl) (by kernel_rfl) (by kernel_rfl) (fun _ _ _ h => h) (Or.inl ⟨by rfl, ?h14⟩) (by assumption) ?_
            case h14 => (intro w hSw; (try dsimp only at hSw); go_simp <;> (try with_reducible rfl))
            try simp only [Act.put, List.setIfInBounds_toArray, List.set_cons_zero, List.set_cons_succ, List.getElem_toArray, List.getElem_cons_zero, List.getElem_cons_succ]
            refine wpAnyH_take (i := 15) (v := .bool true) rfl (by kernel_rfl) (by kernel_rfl) (by kernel_rfl) (fun _ _ _ h => h) (Or.inl ⟨by rfl, ?h15⟩) (by assumption) ?_
            case h15 => (intro w hSw; (try dsimp only at hSw); go_simp <;> (try with_reducible rfl))
            try simp only [Act.put, List.setIfInBounds_toArray, List.set_cons_zero, List.set_cons_succ, List.getElem_toArray, List.getElem_cons_zero, List.getElem_cons_succ]
            refine wpAnyH_take (i := 16) (v := .bool true) rfl (by kernel_rfl) (by kernel_rfl) (by kernel_rfl) (fun _ _ _ h => h) (Or.inl ⟨by rfl, ?h16⟩) (by assumption) ?_
            case h16 => (intro w hSw; (try dsimp only at hSw); go_simp <;> (try with_reducible rfl))
            try simp only [Act.put, List.setIfInBounds_toArray, List.set_cons_zero, List.set_cons_succ, List.getElem_toArray, List.getElem_cons_zero, List.getElem_cons_succ]
            refine wpAnyH_take (i := 17) (v := .bool true) rfl (by kernel_rfl) (by kernel_rfl) (by kernel_rfl) (fun _ _ _ h => h) (Or.inl ⟨by rfl, ?h17⟩) (by assumption) ?_
            case h17 => (intro w hSw; (try dsimp only at hSw); go_simp <;> (try with_reducible rfl))
            try simp only [Act.put, List.setIfInBounds_toArray, List.set_cons_zero, List.set_cons_succ, List.getElem_toArray, List.getElem_cons_zero, List.getElem_cons_succ]
            refine wpAnyH_take (i := 18) (v := ?v18) rfl (by kernel_rfl) (by kernel_rfl) (by kernel_rfl) (fun _ _ _ h => h) (Or.inl ⟨by rfl, ?h18⟩) (by assumption) ?_
            case h18 => (intro w hSw; (try dsimp only at hSw); go_simp <;> (try with_reducible rfl))
            try simp only [Act.put, List.setIfInBounds_toArray, List.set_cons_zero, List.set_cons_succ, List.getElem_toArray, List.getElem_cons_zero, List.getElem_cons_succ]
            refine wpAnyH_take (i := 19) (v := ?v19) rfl (by kernel_rfl) (by kernel_rfl) (by kernel_rfl) (fun _ _ _ h => h) (Or.inl ⟨by rfl, ?h19⟩) (by assumption) ?_
            case h19 => (intro w hSw; (try dsimp only at hSw); go_simp <;> (try with_reducible rfl))
            try simp only [Act.put, List.setIfInBounds_toArray, List.set_cons_zero, List.set_cons_succ, List.getElem_toArray, List.getElem_cons_zero, List.getElem_cons_succ]
            refine wpAnyH_take (i := 20) (v := ?v20) rfl (by kernel_rfl) (by kernel_rfl) (by kernel_rfl) (fun _ _ _ h => h) (Or.inl ⟨by rfl, ?h20⟩) (by assumption) ?_
            case h20 => (intro w hSw; (try dsimp only at hSw); go_simp <;> (try with_reducible rfl))
            try simp only [Act.put, List.setIfInBounds_toArray, List.set_cons_zero, List.set_cons_succ, List.getElem_toArray, List.getElem_cons_zero, List.getElem_cons_succ]
            refine wpAnyH_ready (rs := [21]) (by kernel_rfl) (by simp) ?_
            refine AllReadyH.cons rfl (fun K hK => ?_) (AllReadyH.nil)
            go_simp
            (go_at_call 116; refine (l19Needs_r _ f i k true _ hus hn HS.out HK.out hif hkm (HV.out.below (below_trans' hblW hHeld2.1))).mono ?_; rintro e w2 ⟨rfl, hbz2⟩)
            dsimp only
            refine hK.out _ _ ?_ (fun hHeld3 => ?_)
            · try dsimp only
              exact held_step (by assumption) (by assumption) hbW
            clear hK K
            try simp only [Act.put, List.setIfInBounds_toArray, List.set_cons_zero, List.set_cons_succ, List.getElem_toArray, List.getElem_cons_zero, List.getElem_cons_succ]
            refine wpAnyH_take (i := 22) (v := .bool true) rfl (by kernel_rfl) (by kernel_rfl) (by kernel_rfl) (fun _ _ _ h => h) (Or.inl ⟨by rfl, ?h22⟩) (by assumption) ?_
            case h22 => (intro w hSw; (try dsimp only at hSw); go_simp <;> (try with_reducible rfl))
            try simp only [Act.put, List.setIfInBounds_toArray, List.set_cons_zero, List.set_cons_succ, List.getElem_toArray, List.getElem_cons_zero, List.getElem_cons_succ]
            refine wpAnyH_done (by kernel_rfl) ?_ _
            have hblR := below_trans' hblW hHeld3.1
            go_wp2_with fail
            refine (HIH.out _ (HV.out.below hblR)).mono ?_
            rintro e w5 ⟨rfl, hb5⟩
            have hbl5 := below_trans' hblR hb5
            go_wp2_with fail
            rw [show (1 + (X : Int)) = ((1 + X : Nat) : Int) by omega]
            refine (l00MaxA_any (1 + M) (1 + X) _).mono ?_
            rintro e w6 ⟨rfl, rfl⟩
            go_wp2_with fail
            go_roundw
            case rel => exact ⟨d + 1, Hd2.out hiE, by rw [← Hi1.out]; go_num, by rw [HA2.out] <;> go_num, hbl5⟩
            case measure => simp [intOf] <;> omega
    · have hid : decide ((i : Int) < (E : Int)) = false := decide_eq_false (by omega)
      have HX : Hid (altF f (N + 1) k = 1 + M) := Lib.hid (by rw [hU.out, ← Hd3.out hiE, ← HM.out])
      obtain ⟨W0, hW0⟩ : ∃ W0, W0 = wr := ⟨_, rfl⟩
      rw [← hW0] at hbl ⊢
      have hblW := hbl
      clear hW0
      go_wp2_with fail
      go_ret
      exact ⟨by rw [HX.out] <;> go_num, hblW⟩
end Go.Proofs.YtmaadfoiaegdjaaGreatDoor
