/- Contracts: the dual of a formula, of the program and of the reference. -/
import Derived.Test.YtmaadfoiaegdjaaGreatDoorProg
import Derived.Test.YtmaadfoiaegdjaaGreatDoorMem
import Derived.Test.YtmaadfoiaegdjaaGreatDoorMath
import Derived.Test.YtmaadfoiaegdjaaGreatDoorBasics
import Derived.Test.YtmaadfoiaegdjaaGreatDoorOpenI
import Derived.Test.YtmaadfoiaegdjaaGreatDoorHelpI
import Derived.Test.YtmaadfoiaegdjaaGreatDoorGrid
import Derived.Test.YtmaadfoiaegdjaaGreatDoorLab
import Derived.Test.YtmaadfoiaegdjaaGreatDoorEnv
import Derived.Test.YtmaadfoiaegdjaaGreatDoorRLab
import Derived.Test.YtmaadfoiaegdjaaGreatDoorNode
import Derived.Test.YtmaadfoiaegdjaaGreatDoorNodeW
import Derived.Test.YtmaadfoiaegdjaaGreatDoorMark
import Derived.Test.YtmaadfoiaegdjaaGreatDoorConc
import Derived.Test.YtmaadfoiaegdjaaGreatDoorVMod
import Derived.WalkKit
import Derived.BigQuiet
import Derived.BigRegion
import Derived.Deep.QuietTactic
import Derived.Maps.AppendAt
import Derived.Laws.OwnMore
import Derived.Lib.SliceRun
import Derived.Lib.Hide
import Derived.Outline
set_option linter.unusedVariables false
set_option linter.unusedSimpArgs false
namespace Go.Proofs.YtmaadfoiaegdjaaGreatDoor
open Go.RowKit

theorem new_row (w : World) (cs : Array Value) (T n : Nat) (hn : n = w.heap.size) : ∀ j u, cs.toList[j]? = some u → (w.alloc (.cells cs T)).cell? ((⟨n, 0, none⟩ : Addr).add j) = some u := by
  intro j u hj
  subst hn
  rw [Addr.add_lit, Nat.zero_add, cell_of_row _ _ _ _ _ _ (heap_alloc_new w _)]
  simpa using hj
def dualK (k : Int) : Int := if k = 0 ∨ k = 2 ∨ k = 4 ∨ k = 7 then k + 1 else if k = 1 ∨ k = 3 ∨ k = 5 ∨ k = 8 then k - 1 else k
theorem dualKind_any (k : Int) (w : World) (hk : inR k 0 8 = true) :
    Calls Tryz.prog 115 #[.int .i64 k] w fun e w' => e = .returned (.int .i64 (dualK k)) ∧ w = w' := by
  have h := inR_true hk
  have hc : k = 0 ∨ k = 1 ∨ k = 2 ∨ k = 3 ∨ k = 4 ∨ k = 5 ∨ k = 6 ∨ k = 7 ∨ k = 8 := by omega
  rcases hc with rfl | rfl | rfl | rfl | rfl | rfl | rfl | rfl | rfl
  all_goals
    go_enter Tryz.func115, Tryz.ntmps115
    go_wp2_with fail
    go_ret
    exact ⟨rfl, rfl⟩
theorem l14Other_any (k : Int) (w : World) (hk : inR k 0 8 = true) :
    Calls Tryz.prog 84 #[.int .i64 k] w fun e w' => e = .returned (.int .i64 (dualK k)) ∧ w = w' := by
  have h := inR_true hk
  have hc : k = 0 ∨ k = 1 ∨ k = 2 ∨ k = 3 ∨ k = 4 ∨ k = 5 ∨ k = 6 ∨ k = 7 ∨ k = 8 := by omega
  rcases hc with rfl | rfl | rfl | rfl | rfl | rfl | rfl | rfl | rfl
  all_goals
    go_enter Tryz.func84, Tryz.ntmps84
    go_wp2_with fail
    go_ret
    exact ⟨rfl, rfl⟩
set_option maxHeartbeats 800000 in
set_option maxRecDepth 100000 in
theorem cloneNd_any (v : Value) (f : List Nd) (w : World) (hn : f.length ≤ 1048576) (hv : RdNd w v f) :
    Calls Tryz.prog 114 #[v] w fun e w' => ∃ u, e = .returned u ∧ OwNd w' w.heap.size u f ∧ Below w.heap.size w w' := by
  have HV := Lib.hid hv
  obtain ⟨a, cap, rfl, hcap, hcm, hv⟩ := hv
  obtain ⟨i0, hi, hz0, hz1, hz2⟩ := info_parts infoNd
  cases a with
  | none =>
    have hf0 : f = [] := by
      cases f with
      | nil => rfl
      | cons x l =>
        obtain ⟨b, o, h, _⟩ := hv (by simp)
        cases h
    subst hf0
    clear hv
    have heq : ∀ W, (binOp .eql 33 (.slice none 0 cap) (.slice none 0 0)).run Tryz.prog W = .ok (.bool true) W := fun W => Lib.run_eql_slice_nil (P := Tryz.prog) W 33 49 none 0 cap 0 0 Tryz.underlying33
    go_enter Tryz.func114, Tryz.ntmps114
    go_wp2_with fail
    go_ret
    exact ⟨_, rfl, ⟨none, 0, rfl, Nat.le_refl _, Nat.zero_le _, fun h => absurd h (by simp)⟩, Below.refl _ _⟩
  | some ad =>
    obtain ⟨n, hxn⟩ : ∃ n, n = f.length := ⟨_, rfl⟩
    rw [← hxn] at hcap hv hn HV ⊢
    obtain ⟨P, hP⟩ : ∃ P : List Value, P = (List.range (n * 4)).map (ndc f) := ⟨_, rfl⟩
    have hPl : P.length = n * 4 := by rw [hP]; simp
    have hnews : ∀ j u, P[j]? = some u → w.cell? (ad.add j) = some u := by
      intro j u hj
      have hjl : j < P.length := (List.getElem?_eq_some_iff.1 hj).1
      obtain ⟨b2, o2, e2, hb2, hc2⟩ := hv (by omega)
      cases e2
      rw [Addr.add_lit, hc2 j (by omega), ← hj, hP, List.getElem?_map, List.getElem?_range (by omega)]
      rfl
    have hone : ∀ u ∈ P, u.oneCell' = true := by
      intro u hu
      rw [hP] at hu
      obtain ⟨i, _, rfl⟩ := List.mem_map.1 hu
      unfold ndc ndv
      split
      · rfl
      · split
        · rfl
        · split <;> rfl
    have Hnews : Hid (∀ j u, P[j]? = some u → (w.alloc (.cells #[] 49)).cell? (ad.add j) = some u) := Lib.hid fun j u hj => by
      have h := hnews j u hj
      rw [← h]
      refine World.cell?_of_block ?_
      have hb : (ad.add j).block < w.heap.size := by
        obtain ⟨b2, o2, e2, hb2, hc2⟩ := hv (by have := (List.getElem?_eq_some_iff.1 hj).1; omega)
        cases e2
        rw [Addr.add_lit]
        exact hb2
      exact ((Below.refl w.heap.size w).alloc (Nat.le_refl _) (.cells #[] 49)).block _ hb
    have hO : (w.alloc (.cells #[] 49)).ownsRow w.heap.size 49 4 (.slice (some ⟨w.heap.size, 0, none⟩) 0 0) 0 [] :=
      ⟨rfl, Or.inr ⟨w.heap.size, 0, #[], rfl, Nat.le_refl _, by show (w.heap.push _)[w.heap.size]? = some _; simp, Nat.le_refl _, Nat.zero_le _, rfl, rfl⟩⟩
    have HP := Lib.hid hP
    have Hxn := Lib.hid hxn
    unfold maxLen at hcm
    clear hv hP hnews hxn
    have heq : ∀ W, (binOp .eql 33 (.slice (some ad) n cap) (.slice none 0 0)).run Tryz.prog W = .ok (.bool false) W := fun W => Lib.run_eql_slice_nil (P := Tryz.prog) W 33 49 (some ad) n cap 0 0 Tryz.underlying33
    go_enter Tryz.func114, Tryz.ntmps114
    go_wp2_with (at_builtin; refine wpList_append_own_at _ rfl _ _ 33 rfl w.heap.size 49 i0 (.agg #[.int .i64 0, .int .i64 0, .string ByteArray.empty, .bool false]) 4 40 Tryz.underlying33 hi hz0 hz1 hz2 rfl (by decide) _ 0 _ rfl hO ad n cap P rfl hPl Hnews.out hone ?c2 ?c3 ?c4 ?_)
    case c2 => unfold maxLen; omega
    case c3 => omega
    case c4 => simp
    intro v' w1 hown' hgrow hnil hloc
    have hOw : Hid (OwNd w1 w.heap.size v' f) := Lib.hid (by
      unfold OwNd
      rw [← Hxn.out]
      exact ownsRow_ow hown' _ fun i hi => by rw [HP.out, List.getElem?_map, List.getElem?_range (by omega)]; rfl)
    have hbl : Below w.heap.size w w1 := ((Below.refl _ w).alloc (Nat.le_refl _) _).grown hgrow (by simp) (fun j hj => (hO.lt j hj).1)
    clear hown' hgrow hnil hloc hO
    obtain ⟨aa, cc, rfl⟩ := hOw.out.rd.slice
    go_wp2_with fail
    go_ret
    exact ⟨_, rfl, hOw.out, hbl⟩
def dualN (x : Nd) : Nd := ⟨dualK x.kind, x.var, x.lab, x.neg⟩
def dualL (f : List Nd) : List Nd := f.map dualN
theorem dualL_len (f : List Nd) : (dualL f).length = f.length := by simp [dualL]
theorem ndnth_dual (f : List Nd) (i : Nat) (h : i < f.length) : ndnth (dualL f) i = dualN (ndnth f i) := by simp [ndnth, dualL, h]
def dmix (f : List Nd) (k : Nat) (i : Nat) : Value := if i < k * 4 then ndc (dualL f) i else ndc f i
set_option maxRecDepth 100000 in
set_option maxHeartbeats 1600000 in
theorem dual_any (v : Value) (f : List Nd) (w : World) (hn : f.length ≤ 1048576) (hk : ∀ i, i < f.length → inR (ndnth f i).kind 0 8 = true) (hv : RdNd w v f) :
    Calls Tryz.prog 85 #[v] w fun e w' => ∃ u, e = .returned u ∧ OwNd w' w.heap.size u (dualL f) ∧ Below w.heap.size w w' := by
  have HV := Lib.hid hv
  have HK := Lib.hid hk
  obtain ⟨a, cap, rfl⟩ := hv.slice
  obtain ⟨n, hxn⟩ : ∃ n, n = f.length := ⟨_, rfl⟩
  rw [← hxn] at HV hn ⊢
  have Hxn := Lib.hid hxn
  clear hxn hv hk
  go_enter Tryz.func85, Tryz.ntmps85
  go_wp2_with fail
  refine (cloneNd_any _ f _ (by rw [← Hxn.out]; exact hn) HV.out).mono ?_
  rintro e w1 ⟨u, rfl, hu, hb1⟩
  have HI := Lib.hid hu.inn
  clear hu
  obtain ⟨a1, c1, rfl⟩ := HI.out.rd.slice
  rw [← Hxn.out] at HI ⊢
  unfold InNd at HI
  rw [← Hxn.out] at HI
  obtain ⟨H1, hH⟩ : ∃ H1, H1 = w1.heap.size := ⟨_, rfl⟩
  rw [← hH] at HI
  clear hH
  go_wp2_with fail
  go_loopw [9] (fun si wr => ∃ k : Nat, k ≤ n ∧ si = .int .i64 k ∧ Hid (In wr w.heap.size H1 4 (.slice a1 n c1) n (dmix f k)) ∧ Below w.heap.size w wr)
    (fun si _ => n - (intOf si).toNat)
  case atStart => exact ⟨0, Nat.zero_le _, rfl, Lib.hid (In_same HI.out fun i _ => by unfold dmix; rw [if_neg (by omega)]), hb1⟩
  case round =>
    clear hb1 HI
    obtain ⟨k, hk, rfl, HI, hbl⟩ := hrel
    by_cases hlt : k < n
    · obtain ⟨b, o, rfl⟩ := HI.out.base (by omega)
      obtain ⟨p0, z0, hl0, hh0, hs0⟩ := HI.out.at (k := k * 4) (p := ⟨b, o + k * 4, none⟩) (by omega) rfl
      have hkf : k < f.length := by rw [← Hxn.out]; exact hlt
      have hkd := HK.out k hkf
      rw [show dmix f k (k * 4) = .int .i64 (ndnth f k).kind by unfold dmix; rw [if_neg (by omega), show k * 4 = k * 4 + 0 from rfl, ndc_at f k 0 (by decide)]; rfl] at p0
      obtain ⟨Y, hY⟩ : ∃ Y, Y = ndnth f k := ⟨_, rfl⟩
      rw [← hY] at p0 hkd
      have I1 := In_put HI.out (k := k * 4) (p := ⟨b, o + k * 4, none⟩) (by omega) rfl (.int .i64 (dualK Y.kind))
      have HJ : Hid (In _ w.heap.size H1 4 (.slice (some ⟨b, o, none⟩) n c1) n (dmix f (k + 1))) := Lib.hid (In_same I1 fun i hi => by
        unfold dmix
        by_cases h0 : i = k * 4
        · rw [if_pos (by omega), if_pos h0, h0, show k * 4 = k * 4 + 0 from rfl, ndc_at _ k 0 (by decide), ndnth_dual f k hkf, ← hY]; rfl
        · rw [if_neg h0]
          by_cases h4 : i < k * 4
          · rw [if_pos (by omega), if_pos h4]
          · rw [if_neg h4]
            by_cases h5 : i < (k + 1) * 4
            · rw [if_pos h5]
              obtain ⟨j, hj, hj0, rfl⟩ : ∃ j, j < 4 ∧ j ≠ 0 ∧ i = k * 4 + j := ⟨i - k * 4, by omega, by omega, by omega⟩
              rw [ndc_at _ k j hj, ndc_at _ k j hj, ndnth_dual f k hkf]
              unfold ndv
              rw [if_neg hj0, if_neg hj0]; rfl
            · rw [if_neg h5])
      have hbl2 : Below w.heap.size w (wr.setCell ⟨b, o + k * 4, none⟩ (.int .i64 (dualK Y.kind))) := hbl.setCell hl0 _
      clear hY I1 HI hbl
      go_wp2_with fail
      refine (dualKind_any _ _ hkd).mono ?_
      rintro e w' ⟨rfl, rfl⟩
      go_wp2_with fail
      go_roundw
      case rel => exact ⟨k + 1, by omega, by go_num, HJ, hbl2⟩
      case measure => simp [intOf]; omega
    · obtain rfl : k = n := by omega
      have HR : Hid (OwNd wr w.heap.size (.slice a1 k c1) (dualL f)) := Lib.hid (by
        unfold OwNd
        rw [dualL_len, ← Hxn.out]
        exact (In_same HI.out fun i hi => by unfold dmix; rw [if_pos hi]).ow)
      go_wp2_with fail
      go_ret
      exact ⟨_, rfl, HR.out, hbl⟩
theorem inR_wide {k : Int} {m n : Int} (h : inR k 0 m = true) (hm : m ≤ n) : inR k 0 n = true := by
  have := inR_true h
  unfold inR
  rw [decide_eq_true (show (0 : Int) ≤ k by omega), decide_eq_true (show k ≤ n by omega)]; rfl
theorem validM_kind {f : List Nd} (h : validM f = true) (i : Nat) (hi : i < f.length) : inR (ndnth f i).kind 0 8 = true := by
  unfold validM at h
  simp only [Bool.and_eq_true, decide_eq_true_eq] at h
  have := h.2 i hi
  unfold nodeM at this
  simp only [Bool.and_eq_true] at this
  exact inR_wide this.1.1 (by decide)
def dualM (f : List Nd) : List Nd := if validM f = true then dualL f else []
def dualC (f : List Nd) : Int := if validM f = true then 0 else 1
theorem dualM_len (f : List Nd) : (dualM f).length ≤ f.length := by unfold dualM; split <;> simp [dualL_len]
theorem OwNd_nil (w : World) (base : Nat) : OwNd w base (.slice none 0 0) [] := ⟨none, 0, rfl, Nat.le_refl _, Nat.zero_le _, fun h => absurd h (by simp)⟩
theorem DualModal_any (v : Value) (f : List Nd) (w : World) (hn : f.length ≤ 1048576) (hls : ∀ i, i < f.length → (ndnth f i).lab.size ≤ 1048576) (hT : Env w) (hv : RdNd w v f) :
    Calls Tryz.prog 40 #[v] w fun e w' => ∃ u, e = .returned (.tuple #[u, .int .i64 (dualC f)]) ∧ OwNd w' w.heap.size u (dualM f) ∧ Below w.heap.size w w' := by
  have HV := Lib.hid hv
  obtain ⟨a, cap, rfl⟩ := hv.slice
  clear hv
  cases hvm : validM f with
  | false =>
    have hM : Hid (dualM f = []) := Lib.hid (by unfold dualM; rw [hvm]; rfl)
    have hC : Hid (dualC f = 1) := Lib.hid (by unfold dualC; rw [hvm]; rfl)
    rw [hM.out, hC.out]
    go_enter Tryz.func40, Tryz.ntmps40
    go_wp2_with fail
    refine (ValidModal_any _ f _ hn hls hT HV.out).mono ?_
    rw [hvm]
    rintro e w1 ⟨rfl, hb1⟩
    go_wp2_with fail
    go_ret2
    exact ⟨_, rfl, OwNd_nil _ _, hb1⟩
  | true =>
    have hM : Hid (dualM f = dualL f) := Lib.hid (by unfold dualM; rw [hvm]; rfl)
    have hC : Hid (dualC f = 0) := Lib.hid (by unfold dualC; rw [hvm]; rfl)
    rw [hM.out, hC.out]
    have HK := Lib.hid (validM_kind hvm)
    go_enter Tryz.func40, Tryz.ntmps40
    go_wp2_with fail
    refine (ValidModal_any _ f _ hn hls hT HV.out).mono ?_
    rw [hvm]
    rintro e w1 ⟨rfl, hb1⟩
    go_wp2_with fail
    refine (dual_any _ f _ hn HK.out (HV.out.below hb1)).mono ?_
    rintro e w2 ⟨u, rfl, hu, hb2⟩
    obtain ⟨a1, c1, rfl⟩ := hu.rd.slice
    have HU := Lib.hid hu
    have hz := hb1.size
    clear hu
    go_wp2_with fail
    go_ret2
    exact ⟨_, rfl, HU.out.mono hz, hb1.trans (hb2.mono hz)⟩
set_option maxRecDepth 100000 in
set_option maxHeartbeats 1600000 in
theorem spec_DualModal_any (v : Value) (f : List Nd) (w : World) (hn : f.length ≤ 1048576) (hls : ∀ i, i < f.length → (ndnth f i).lab.size ≤ 1048576) (hv : RdNd w v f) :
    Calls Tryz.prog 39 #[v] w fun e w' => ∃ u, e = .returned (.tuple #[u, .int .i64 (dualC f)]) ∧ OwNd w' w.heap.size u (dualM f) ∧ Below w.heap.size w w' := by
  have HV := Lib.hid hv
  obtain ⟨a, cap, rfl⟩ := hv.slice
  clear hv
  cases hvm : validM f with
  | false =>
    have hM : Hid (dualM f = []) := Lib.hid (by unfold dualM; rw [hvm]; rfl)
    have hC : Hid (dualC f = 1) := Lib.hid (by unfold dualC; rw [hvm]; rfl)
    rw [hM.out, hC.out]
    go_enter Tryz.func39, Tryz.ntmps39
    go_wp2_with fail
    refine (l14Is_any _ f _ hn hls HV.out).mono ?_
    rw [hvm]
    rintro e w1 ⟨rfl, hb1⟩
    go_wp2_with fail
    go_ret2
    exact ⟨_, rfl, OwNd_nil _ _, hb1⟩
  | true =>
    have hM : Hid (dualM f = dualL f) := Lib.hid (by unfold dualM; rw [hvm]; rfl)
    have hC : Hid (dualC f = 0) := Lib.hid (by unfold dualC; rw [hvm]; rfl)
    rw [hM.out, hC.out]
    have HK := Lib.hid (validM_kind hvm)
    obtain ⟨i0, hi, hz0, hz1, hz2⟩ := info_parts infoNd
    obtain ⟨n, hxn⟩ : ∃ n, n = f.length := ⟨_, rfl⟩
    rw [← hxn] at hn HV ⊢
    have Hxn := Lib.hid hxn
    clear hxn
    go_enter Tryz.func39, Tryz.ntmps39
    go_wp2_with fail
    refine (l14Is_any _ f _ (by rw [← Hxn.out]; exact hn) hls HV.out).mono ?_
    rw [hvm]
    rintro e w1 ⟨rfl, hb1⟩
    have hO : (w1.alloc (.cells #[] 49)).ownsRow w.heap.size 49 4 (.slice (some ⟨w1.heap.size, 0, none⟩) 0 0) 0 ((List.range (0 * 4)).map (ndc (dualL f))) :=
      ⟨rfl, Or.inr ⟨w1.heap.size, 0, #[], rfl, hb1.size, by show (w1.heap.push _)[w1.heap.size]? = some _; simp, Nat.le_refl _, Nat.zero_le _, rfl, rfl⟩⟩
    have hb2 : Below w.heap.size w (w1.alloc (.cells #[] 49)) := hb1.alloc hb1.size _
    go_wp2_with fail
    go_loopw [4, 5] (fun so si wr => ∃ k : Nat, k ≤ n ∧ si = .int .i64 k ∧ Hid (wr.ownsRow w.heap.size 49 4 so k ((List.range (k * 4)).map (ndc (dualL f)))) ∧ Below w.heap.size w wr)
      (fun _ si _ => n - (intOf si).toNat)
    case atStart => exact ⟨0, Nat.zero_le _, rfl, Lib.hid hO, hb2⟩
    case round =>
      clear hO hb2 hb1
      obtain ⟨k, hk, rfl, HO, hbl⟩ := hrel
      obtain ⟨ao, co, rfl⟩ := owned_slice HO.out
      by_cases hlt : k < n
      · have hkf : k < f.length := by rw [← Hxn.out]; exact hlt
        obtain ⟨b, o, rfl, hb, g0, g1, g2, g3⟩ := RdNd.cells HV.out hkf
        have q0 := (hbl.cell (by exact hb)).trans g0
        have q1 := (hbl.cell (by exact hb)).trans g1
        have q2 := (hbl.cell (by exact hb)).trans g2
        have q3 := (hbl.cell (by exact hb)).trans g3
        have hkd := HK.out k hkf
        obtain ⟨Y, hY⟩ : ∃ Y, Y = ndnth f k := ⟨_, rfl⟩
        rw [← hY] at q0 q1 q2 q3 hkd
        have HY := Lib.hid hY
        clear hY g0 g1 g2 g3
        have hblo := hbl.size
        go_wp2_with fail
        refine (l14Other_any _ _ hkd).mono ?_
        rintro e w' ⟨rfl, rfl⟩
        obtain ⟨D, hD⟩ : ∃ D, D = dualK Y.kind := ⟨_, rfl⟩
        rw [← hD]
        have HD := Lib.hid hD
        clear hD
        go_wp2_with (at_builtin; refine wpList_append_own_at _ rfl _ _ 33 rfl w.heap.size 49 i0 (.agg #[.int .i64 0, .int .i64 0, .string ByteArray.empty, .bool false]) 4 40 Tryz.underlying33 hi hz0 hz1 hz2 rfl (by decide) _ k _ rfl ((HO.out.alloc _).alloc _) ⟨wr.heap.size + 1, 0, none⟩ 1 1 [.int .i64 D, .int .i64 Y.var, .string Y.lab, .bool Y.neg] rfl rfl (new_row _ #[.int .i64 D, .int .i64 Y.var, .string Y.lab, .bool Y.neg] _ _ (by simp)) (by simp [Value.oneCell']) ?c2 ?c3 ?c4 ?_)
        case c2 => unfold maxLen; omega
        case c3 => omega
        case c4 => simp; omega
        intro v' w3 hown' hgrow hnil hloc
        have hO3 : Hid (w3.ownsRow w.heap.size 49 4 v' (k + 1) ((List.range ((k + 1) * 4)).map (ndc (dualL f)))) := Lib.hid (by
          have e : (List.range ((k + 1) * 4)).map (ndc (dualL f)) = (List.range (k * 4)).map (ndc (dualL f)) ++ [.int .i64 D, .int .i64 Y.var, .string Y.lab, .bool Y.neg] := by
            rw [show (k + 1) * 4 = k * 4 + 1 + 1 + 1 + 1 by omega, List.range_succ, List.range_succ, List.range_succ, List.range_succ]
            simp only [List.map_append, List.append_assoc, List.map_cons, List.map_nil, List.cons_append, List.nil_append]
            rw [show k * 4 = k * 4 + 0 from rfl, ndc_at _ k 0 (by decide), show k * 4 + 0 + 1 = k * 4 + 1 from rfl, ndc_at _ k 1 (by decide), show k * 4 + 0 + 1 + 1 = k * 4 + 2 from rfl, ndc_at _ k 2 (by decide), show k * 4 + 0 + 1 + 1 + 1 = k * 4 + 3 from rfl, ndc_at _ k 3 (by decide), ndnth_dual f k hkf, ← HY.out, HD.out]
            rfl
          rw [e]
          exact hown')
        have hbl3 : Below w.heap.size w w3 := ((hbl.alloc hblo _).alloc (by simp; omega) _).grown hgrow (by simp; omega) (fun j hj => (HO.out.lt j hj).1)
        clear hown' hgrow hnil hloc HO
        obtain ⟨aa, cc, rfl⟩ := owned_slice hO3.out
        go_wp2_with fail
        go_roundw
        case rel => exact ⟨k + 1, by omega, by go_num, hO3, hbl3⟩
        case measure => simp [intOf]; omega
      · obtain rfl : k = n := by omega
        have HR : Hid (OwNd wr w.heap.size (.slice ao k co) (dualL f)) := Lib.hid (by
          unfold OwNd
          rw [dualL_len, ← Hxn.out]
          exact ownsRow_ow HO.out _ fun i hi => by rw [List.getElem?_map, List.getElem?_range (by omega)]; rfl)
        go_wp2_with fail
        go_ret2
        exact ⟨_, rfl, HR.out, hbl⟩
end Go.Proofs.YtmaadfoiaegdjaaGreatDoor
