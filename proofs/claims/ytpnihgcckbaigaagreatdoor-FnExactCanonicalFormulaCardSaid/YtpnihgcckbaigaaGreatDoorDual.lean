/- Contracts: the dual of a formula, of the program and of the reference. -/
import Derived.Test.YtpnihgcckbaigaaGreatDoorProg
import Derived.Test.YtpnihgcckbaigaaGreatDoorMem
import Derived.Test.YtpnihgcckbaigaaGreatDoorMath
import Derived.Test.YtpnihgcckbaigaaGreatDoorBasics
import Derived.Test.YtpnihgcckbaigaaGreatDoorOpenI
import Derived.Test.YtpnihgcckbaigaaGreatDoorHelpI
import Derived.Test.YtpnihgcckbaigaaGreatDoorGrid
import Derived.Test.YtpnihgcckbaigaaGreatDoorLab
import Derived.Test.YtpnihgcckbaigaaGreatDoorEnv
import Derived.Test.YtpnihgcckbaigaaGreatDoorRLab
import Derived.Test.YtpnihgcckbaigaaGreatDoorNode
import Derived.Test.YtpnihgcckbaigaaGreatDoorNodeW
import Derived.Test.YtpnihgcckbaigaaGreatDoorMark
import Derived.Test.YtpnihgcckbaigaaGreatDoorConc
import Derived.Test.YtpnihgcckbaigaaGreatDoorVMod
import Derived.WalkKit
import Derived.BigQuiet
import Derived.BigRegion
import Derived.Deep.QuietTactic
import Derived.Maps.AppendAt
import Derived.Laws.OwnMore
import Derived.Lib.SliceRun
import Derived.Lib.Hide
import Derived.Outline
set_option linter.unusedVariables false
set_option linter.unusedSimpArgs false
namespace Go.Proofs.YtpnihgcckbaigaaGreatDoor
open Go.RowKit

theorem new_row (w : World) (cs : Array Value) (T n : Nat) (hn : n = w.heap.size) : ∀ j u, cs.toList[j]? = some u → (w.alloc (.cells cs T)).cell? ((⟨n, 0, none⟩ : Addr).add j) = some u := by
  intro j u hj
  subst hn
  rw [Addr.add_lit, Nat.zero_add, cell_of_row _ _ _ _ _ _ (heap_alloc_new w _)]
  simpa using hj
set_option maxHeartbeats 800000 in
set_option maxRecDepth 100000 in
theorem cloneNd_any (v : Value) (f : List Nd) (w : World) (hn : f.length ≤ 1048576) (hv : RdNd w v f) :
    Calls Tryz.prog 18 #[v] w fun e w' => ∃ u, e = .returned u ∧ OwNd w' w.heap.size u f ∧ Below w.heap.size w w' := by
  have HV := Lib.hid hv
  obtain ⟨a, cap, rfl, hcap, hcm, hv⟩ := hv
  obtain ⟨i0, hi, hz0, hz1, hz2⟩ := info_parts infoNd
  cases a with
  | none =>
    have hf0 : f = [] := by
      cases f with
      | nil => rfl
      | cons x l =>
        obtain ⟨b, o, h, _⟩ := hv (by simp)
        cases h
    subst hf0
    clear hv
    have heq : ∀ W, (binOp .eql 24 (.slice none 0 cap) (.slice none 0 0)).run Tryz.prog W = .ok (.bool true) W := fun W => Lib.run_eql_slice_nil (P := Tryz.prog) W 24 37 none 0 cap 0 0 Tryz.underlying24
    go_enter Tryz.func18, Tryz.ntmps18
    go_wp2_with fail
    go_ret
    exact ⟨_, rfl, ⟨none, 0, rfl, Nat.le_refl _, Nat.zero_le _, fun h => absurd h (by simp)⟩, Below.refl _ _⟩
  | some ad =>
    obtain ⟨n, hxn⟩ : ∃ n, n = f.length := ⟨_, rfl⟩
    rw [← hxn] at hcap hv hn HV ⊢
    obtain ⟨P, hP⟩ : ∃ P : List Value, P = (List.range (n * 4)).map (ndc f) := ⟨_, rfl⟩
    have hPl : P.length = n * 4 := by rw [hP]; simp
    have hnews : ∀ j u, P[j]? = some u → w.cell? (ad.add j) = some u := by
      intro j u hj
      have hjl : j < P.length := (List.getElem?_eq_some_iff.1 hj).1
      obtain ⟨b2, o2, e2, hb2, hc2⟩ := hv (by omega)
      cases e2
      rw [Addr.add_lit, hc2 j (by omega), ← hj, hP, List.getElem?_map, List.getElem?_range (by omega)]
      rfl
    have hone : ∀ u ∈ P, u.oneCell' = true := by
      intro u hu
      rw [hP] at hu
      obtain ⟨i, _, rfl⟩ := List.mem_map.1 hu
      unfold ndc ndv
      split
      · rfl
      · split
        · rfl
        · split <;> rfl
    have Hnews : Hid (∀ j u, P[j]? = some u → (w.alloc (.cells #[] 37)).cell? (ad.add j) = some u) := Lib.hid fun j u hj => by
      have h := hnews j u hj
      rw [← h]
      refine World.cell?_of_block ?_
      have hb : (ad.add j).block < w.heap.size := by
        obtain ⟨b2, o2, e2, hb2, hc2⟩ := hv (by have := (List.getElem?_eq_some_iff.1 hj).1; omega)
        cases e2
        rw [Addr.add_lit]
        exact hb2
      exact ((Below.refl w.heap.size w).alloc (Nat.le_refl _) (.cells #[] 37)).block _ hb
    have hO : (w.alloc (.cells #[] 37)).ownsRow w.heap.size 37 4 (.slice (some ⟨w.heap.size, 0, none⟩) 0 0) 0 [] :=
      ⟨rfl, Or.inr ⟨w.heap.size, 0, #[], rfl, Nat.le_refl _, by show (w.heap.push _)[w.heap.size]? = some _; simp, Nat.le_refl _, Nat.zero_le _, rfl, rfl⟩⟩
    have HP := Lib.hid hP
    have Hxn := Lib.hid hxn
    unfold maxLen at hcm
    clear hv hP hnews hxn
    have heq : ∀ W, (binOp .eql 24 (.slice (some ad) n cap) (.slice none 0 0)).run Tryz.prog W = .ok (.bool false) W := fun W => Lib.run_eql_slice_nil (P := Tryz.prog) W 24 37 (some ad) n cap 0 0 Tryz.underlying24
    go_enter Tryz.func18, Tryz.ntmps18
    go_wp2_with (at_builtin; refine wpList_append_own_at _ rfl _ _ 24 rfl w.heap.size 37 i0 (.agg #[.int .i64 0, .int .i64 0, .string ByteArray.empty, .bool false]) 4 40 Tryz.underlying24 hi hz0 hz1 hz2 rfl (by decide) _ 0 _ rfl hO ad n cap P rfl hPl Hnews.out hone ?c2 ?c3 ?c4 ?_)
    case c2 => unfold maxLen; omega
    case c3 => omega
    case c4 => simp
    intro v' w1 hown' hgrow hnil hloc
    have hOw : Hid (OwNd w1 w.heap.size v' f) := Lib.hid (by
      unfold OwNd
      rw [← Hxn.out]
      exact ownsRow_ow hown' _ fun i hi => by rw [HP.out, List.getElem?_map, List.getElem?_range (by omega)]; rfl)
    have hbl : Below w.heap.size w w1 := ((Below.refl _ w).alloc (Nat.le_refl _) _).grown hgrow (by simp) (fun j hj => (hO.lt j hj).1)
    clear hown' hgrow hnil hloc hO
    obtain ⟨aa, cc, rfl⟩ := hOw.out.rd.slice
    go_wp2_with fail
    go_ret
    exact ⟨_, rfl, hOw.out, hbl⟩
end Go.Proofs.YtpnihgcckbaigaaGreatDoor
