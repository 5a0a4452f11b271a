/- Contracts: the dual of a formula, of the program and of the reference. -/
import Derived.Test.YtbhkpnhlegiilaaGreatDoorProg
import Derived.Test.YtbhkpnhlegiilaaGreatDoorMem
import Derived.Test.YtbhkpnhlegiilaaGreatDoorMath
import Derived.Test.YtbhkpnhlegiilaaGreatDoorBasics
import Derived.Test.YtbhkpnhlegiilaaGreatDoorOpenI
import Derived.Test.YtbhkpnhlegiilaaGreatDoorHelpI
import Derived.Test.YtbhkpnhlegiilaaGreatDoorGrid
import Derived.Test.YtbhkpnhlegiilaaGreatDoorLab
import Derived.Test.YtbhkpnhlegiilaaGreatDoorEnv
import Derived.Test.YtbhkpnhlegiilaaGreatDoorRLab
import Derived.Test.YtbhkpnhlegiilaaGreatDoorNode
import Derived.Test.YtbhkpnhlegiilaaGreatDoorNodeW
import Derived.Test.YtbhkpnhlegiilaaGreatDoorMark
import Derived.Test.YtbhkpnhlegiilaaGreatDoorConc
import Derived.Test.YtbhkpnhlegiilaaGreatDoorVMod
import Derived.WalkKit
import Derived.BigQuiet
import Derived.BigRegion
import Derived.Deep.QuietTactic
import Derived.Maps.AppendAt
import Derived.Laws.OwnMore
import Derived.Lib.SliceRun
import Derived.Lib.Hide
import Derived.Outline
set_option linter.unusedVariables false
set_option linter.unusedSimpArgs false
namespace Go.Proofs.YtbhkpnhlegiilaaGreatDoor
open Go.RowKit

theorem new_row (w : World) (cs : Array Value) (T n : Nat) (hn : n = w.heap.size) : ∀ j u, cs.toList[j]? = some u → (w.alloc (.cells cs T)).cell? ((⟨n, 0, none⟩ : Addr).add j) = some u := by
  intro j u hj
  subst hn
  rw [Addr.add_lit, Nat.zero_add, cell_of_row _ _ _ _ _ _ (heap_alloc_new w _)]
  simpa using hj
def dualK (k : Int) : Int := if k = 0 ∨ k = 2 ∨ k = 4 ∨ k = 7 then k + 1 else if k = 1 ∨ k = 3 ∨ k = 5 ∨ k = 8 then k - 1 else k
theorem dualKind_any (k : Int) (w : World) (hk : inR k 0 8 = true) :
    Calls Tryz.prog 45 #[.int .i64 k] w fun e w' => e = .returned (.int .i64 (dualK k)) ∧ w = w' := by
  have h := inR_true hk
  have hc : k = 0 ∨ k = 1 ∨ k = 2 ∨ k = 3 ∨ k = 4 ∨ k = 5 ∨ k = 6 ∨ k = 7 ∨ k = 8 := by omega
  rcases hc with rfl | rfl | rfl | rfl | rfl | rfl | rfl | rfl | rfl
  all_goals
    go_enter Tryz.func45, Tryz.ntmps45
    go_wp2_with fail
    go_ret
    exact ⟨rfl, rfl⟩
theorem l14Other_any (k : Int) (w : World) (hk : inR k 0 8 = true) :
    Calls Tryz.prog 39 #[.int .i64 k] w fun e w' => e = .returned (.int .i64 (dualK k)) ∧ w = w' := by
  have h := inR_true hk
  have hc : k = 0 ∨ k = 1 ∨ k = 2 ∨ k = 3 ∨ k = 4 ∨ k = 5 ∨ k = 6 ∨ k = 7 ∨ k = 8 := by omega
  rcases hc with rfl | rfl | rfl | rfl | rfl | rfl | rfl | rfl | rfl
  all_goals
    go_enter Tryz.func39, Tryz.ntmps39
    go_wp2_with fail
    go_ret
    exact ⟨rfl, rfl⟩
set_option maxHeartbeats 800000 in
set_option maxRecDepth 100000 in
theorem cloneNd_any (v : Value) (f : List Nd) (w : World) (hn : f.length ≤ 1048576) (hv : RdNd w v f) :
    Calls Tryz.prog 44 #[v] w fun e w' => ∃ u, e = .returned u ∧ OwNd w' w.heap.size u f ∧ Below w.heap.size w w' := by
  have HV := Lib.hid hv
  obtain ⟨a, cap, rfl, hcap, hcm, hv⟩ := hv
  obtain ⟨i0, hi, hz0, hz1, hz2⟩ := info_parts infoNd
  cases a with
  | none =>
    have hf0 : f = [] := by
      cases f with
      | nil => rfl
      | cons x l =>
        obtain ⟨b, o, h, _⟩ := hv (by simp)
        cases h
    subst hf0
    clear hv
    have heq : ∀ W, (binOp .eql 24 (.slice none 0 cap) (.slice none 0 0)).run Tryz.prog W = .ok (.bool true) W := fun W => Lib.run_eql_slice_nil (P := Tryz.prog) W 24 37 none 0 cap 0 0 Tryz.underlying24
    go_enter Tryz.func44, Tryz.ntmps44
    go_wp2_with fail
    go_ret
    exact ⟨_, rfl, ⟨none, 0, rfl, Nat.le_refl _, Nat.zero_le _, fun h => absurd h (by simp)⟩, Below.refl _ _⟩
  | some ad =>
    obtain ⟨n, hxn⟩ : ∃ n, n = f.length := ⟨_, rfl⟩
    rw [← hxn] at hcap hv hn HV ⊢
    obtain ⟨P, hP⟩ : ∃ P : List Value, P = (List.range (n * 4)).map (ndc f) := ⟨_, rfl⟩
    have hPl : P.length = n * 4 := by rw [hP]; simp
    have hnews : ∀ j u, P[j]? = some u → w.cell? (ad.add j) = some u := by
      intro j u hj
      have hjl : j < P.length := (List.getElem?_eq_some_iff.1 hj).1
      obtain ⟨b2, o2, e2, hb2, hc2⟩ := hv (by omega)
      cases e2
      rw [Addr.add_lit, hc2 j (by omega), ← hj, hP, List.getElem?_map, List.getElem?_range (by omega)]
      rfl
    have hone : ∀ u ∈ P, u.oneCell' = true := by
      intro u hu
      rw [hP] at hu
      obtain ⟨i, _, rfl⟩ := List.mem_map.1 hu
      unfold ndc ndv
      split
      · rfl
      · split
        · rfl
        · split <;> rfl
    have Hnews : Hid (∀ j u, P[j]? = some u → (w.alloc (.cells #[] 37)).cell? (ad.add j) = some u) := Lib.hid fun j u hj => by
      have h := hnews j u hj
      rw [← h]
      refine World.cell?_of_block ?_
      have hb : (ad.add j).block < w.heap.size := by
        obtain ⟨b2, o2, e2, hb2, hc2⟩ := hv (by have := (List.getElem?_eq_some_iff.1 hj).1; omega)
        cases e2
        rw [Addr.add_lit]
        exact hb2
      exact ((Below.refl w.heap.size w).alloc (Nat.le_refl _) (.cells #[] 37)).block _ hb
    have hO : (w.alloc (.cells #[] 37)).ownsRow w.heap.size 37 4 (.slice (some ⟨w.heap.size, 0, none⟩) 0 0) 0 [] :=
      ⟨rfl, Or.inr ⟨w.heap.size, 0, #[], rfl, Nat.le_refl _, by show (w.heap.push _)[w.heap.size]? = some _; simp, Nat.le_refl _, Nat.zero_le _, rfl, rfl⟩⟩
    have HP := Lib.hid hP
    have Hxn := Lib.hid hxn
    unfold maxLen at hcm
    clear hv hP hnews hxn
    have heq : ∀ W, (binOp .eql 24 (.slice (some ad) n cap) (.slice none 0 0)).run Tryz.prog W = .ok (.bool false) W := fun W => Lib.run_eql_slice_nil (P := Tryz.prog) W 24 37 (some ad) n cap 0 0 Tryz.underlying24
    go_enter Tryz.func44, Tryz.ntmps44
    go_wp2_with (at_builtin; refine wpList_append_own_at _ rfl _ _ 24 rfl w.heap.size 37 i0 (.agg #[.int .i64 0, .int .i64 0, .string ByteArray.empty, .bool false]) 4 40 Tryz.underlying24 hi hz0 hz1 hz2 rfl (by decide) _ 0 _ rfl hO ad n cap P rfl hPl Hnews.out hone ?c2 ?c3 ?c4 ?_)
    case c2 => unfold maxLen; omega
    case c3 => omega
    case c4 => simp
    intro v' w1 hown' hgrow hnil hloc
    have hOw : Hid (OwNd w1 w.heap.size v' f) := Lib.hid (by
      unfold OwNd
      rw [← Hxn.out]
      exact ownsRow_ow hown' _ fun i hi => by rw [HP.out, List.getElem?_map, List.getElem?_range (by omega)]; rfl)
    have hbl : Below w.heap.size w w1 := ((Below.refl _ w).alloc (Nat.le_refl _) _).grown hgrow (by simp) (fun j hj => (hO.lt j hj).1)
    clear hown' hgrow hnil hloc hO
    obtain ⟨aa, cc, rfl⟩ := hOw.out.rd.slice
    go_wp2_with fail
    go_ret
    exact ⟨_, rfl, hOw.out, hbl⟩
def dualN (x : Nd) : Nd := ⟨dualK x.kind, x.var, x.lab, x.neg⟩
def dualL (f : List Nd) : List Nd := f.map dualN
theorem dualL_len (f : List Nd) : (dualL f).length = f.length := by simp [dualL]
theorem ndnth_dual (f : List Nd) (i : Nat) (h : i < f.length) : ndnth (dualL f) i = dualN (ndnth f i) := by simp [ndnth, dualL, h]
def dmix (f : List Nd) (k : Nat) (i : Nat) : Value := if i < k * 4 then ndc (dualL f) i else ndc f i
set_option maxRecDepth 100000 in
set_option maxHeartbeats 1600000 in
theorem dual_any (v : Value) (f : List Nd) (w : World) (hn : f.length ≤ 1048576) (hk : ∀ i, i < f.length → inR (ndnth f i).kind 0 8 = true) (hv : RdNd w v f) :
    Calls Tryz.prog 29 #[v] w fun e w' => ∃ u, e = .returned u ∧ OwNd w' w.heap.size u (dualL f) ∧ Below w.heap.size w w' := by
  have HV := Lib.hid hv
  have HK := Lib.hid hk
  obtain ⟨a, cap, rfl⟩ := hv.slice
  obtain ⟨n, hxn⟩ : ∃ n, n = f.length := ⟨_, rfl⟩
  rw [← hxn] at HV hn ⊢
  have Hxn := Lib.hid hxn
  clear hxn hv hk
  go_enter Tryz.func29, Tryz.ntmps29
  go_wp2_with fail
  refine (cloneNd_any _ f _ (by rw [← Hxn.out]; exact hn) HV.out).mono ?_
  rintro e w1 ⟨u, rfl, hu, hb1⟩
  have HI := Lib.hid hu.inn
  clear hu
  obtain ⟨a1, c1, rfl⟩ := HI.out.rd.slice
  rw [← Hxn.out] at HI ⊢
  unfold InNd at HI
  rw [← Hxn.out] at HI
  obtain ⟨H1, hH⟩ : ∃ H1, H1 = w1.heap.size := ⟨_, rfl⟩
  rw [← hH] at HI
  clear hH
  go_wp2_with fail
  go_loopw [9] (fun si wr => ∃ k : Nat, k ≤ n ∧ si = .int .i64 k ∧ Hid (In wr w.heap.size H1 4 (.slice a1 n c1) n (dmix f k)) ∧ Below w.heap.size w wr)
    (fun si _ => n - (intOf si).toNat)
  case atStart => exact ⟨0, Nat.zero_le _, rfl, Lib.hid (In_same HI.out fun i _ => by unfold dmix; rw [if_neg (by omega)]), hb1⟩
  case round =>
    clear hb1 HI
    obtain ⟨k, hk, rfl, HI, hbl⟩ := hrel
    by_cases hlt : k < n
    · obtain ⟨b, o, rfl⟩ := HI.out.base (by omega)
      obtain ⟨p0, z0, hl0, hh0, hs0⟩ := HI.out.at (k := k * 4) (p := ⟨b, o + k * 4, none⟩) (by omega) rfl
      have hkf : k < f.length := by rw [← Hxn.out]; exact hlt
      have hkd := HK.out k hkf
      rw [show dmix f k (k * 4) = .int .i64 (ndnth f k).kind by unfold dmix; rw [if_neg (by omega), show k * 4 = k * 4 + 0 from rfl, ndc_at f k 0 (by decide)]; rfl] at p0
      obtain ⟨Y, hY⟩ : ∃ Y, Y = ndnth f k := ⟨_, rfl⟩
      rw [← hY] at p0 hkd
      have I1 := In_put HI.out (k := k * 4) (p := ⟨b, o + k * 4, none⟩) (by omega) rfl (.int .i64 (dualK Y.kind))
      have HJ : Hid (In _ w.heap.size H1 4 (.slice (some ⟨b, o, none⟩) n c1) n (dmix f (k + 1))) := Lib.hid (In_same I1 fun i hi => by
        unfold dmix
        by_cases h0 : i = k * 4
        · rw [if_pos (by omega), if_pos h0, h0, show k * 4 = k * 4 + 0 from rfl, ndc_at _ k 0 (by decide), ndnth_dual f k hkf, ← hY]; rfl
        · rw [if_neg h0]
          by_cases h4 : i < k * 4
          · rw [if_pos (by omega), if_pos h4]
          · rw [if_neg h4]
            by_cases h5 : i < (k + 1) * 4
            · rw [if_pos h5]
              obtain ⟨j, hj, hj0, rfl⟩ : ∃ j, j < 4 ∧ j ≠ 0 ∧ i = k * 4 + j := ⟨i - k * 4, by omega, by omega, by omega⟩
              rw [ndc_at _ k j hj, ndc_at _ k j hj, ndnth_dual f k hkf]
              unfold ndv
              rw [if_neg hj0, if_neg hj0]; rfl
            · rw [if_neg h5])
      have hbl2 : Below w.heap.size w (wr.setCell ⟨b, o + k * 4, none⟩ (.int .i64 (dualK Y.kind))) := hbl.setCell hl0 _
      clear hY I1 HI hbl
      go_wp2_with fail
      refine (dualKind_any _ _ hkd).mono ?_
      rintro e w' ⟨rfl, rfl⟩
      go_wp2_with fail
      go_roundw
      case rel => exact ⟨k + 1, by omega, by go_num, HJ, hbl2⟩
      case measure => simp [intOf]; omega
    · obtain rfl : k = n := by omega
      have HR : Hid (OwNd wr w.heap.size (.slice a1 k c1) (dualL f)) := Lib.hid (by
        unfold OwNd
        rw [dualL_len, ← Hxn.out]
        exact (In_same HI.out fun i hi => by unfold dmix; rw [if_pos hi]).ow)
      go_wp2_with fail
      go_ret
      exact ⟨_, rfl, HR.out, hbl⟩
end Go.Proofs.YtbhkpnhlegiilaaGreatDoor
