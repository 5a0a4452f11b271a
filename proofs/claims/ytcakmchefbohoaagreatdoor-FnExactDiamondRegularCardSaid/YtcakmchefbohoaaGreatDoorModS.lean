/- Contracts: the replacement of a regular modality, by the reference. -/
import Derived.Test.YtcakmchefbohoaaGreatDoorProg
import Derived.Test.YtcakmchefbohoaaGreatDoorMem
import Derived.Test.YtcakmchefbohoaaGreatDoorMath
import Derived.Test.YtcakmchefbohoaaGreatDoorBasics
import Derived.Test.YtcakmchefbohoaaGreatDoorOpenI
import Derived.Test.YtcakmchefbohoaaGreatDoorHelpI
import Derived.Test.YtcakmchefbohoaaGreatDoorGrid
import Derived.Test.YtcakmchefbohoaaGreatDoorLab
import Derived.Test.YtcakmchefbohoaaGreatDoorDec
import Derived.Test.YtcakmchefbohoaaGreatDoorEnv
import Derived.Test.YtcakmchefbohoaaGreatDoorNode
import Derived.Test.YtcakmchefbohoaaGreatDoorNodeW
import Derived.Test.YtcakmchefbohoaaGreatDoorReg
import Derived.Test.YtcakmchefbohoaaGreatDoorVReg
import Derived.Test.YtcakmchefbohoaaGreatDoorTreeR
import Derived.Test.YtcakmchefbohoaaGreatDoorConc
import Derived.Test.YtcakmchefbohoaaGreatDoorNds
import Derived.Test.YtcakmchefbohoaaGreatDoorInst
import Derived.Test.YtcakmchefbohoaaGreatDoorModP
import Derived.Test.YtcakmchefbohoaaGreatDoorModE
import Derived.Test.YtcakmchefbohoaaGreatDoorModJ
import Derived.Test.YtcakmchefbohoaaGreatDoorModB
import Derived.WalkKit
import Derived.BigQuiet
import Derived.BigRegion
import Derived.Deep.QuietTactic
import Derived.Deep.RegionHeld3
import Derived.Deep.RegionLawGrows
import Derived.Deep.AppendLies
import Derived.Maps.AppendAt
import Derived.Laws.OwnMore
import Derived.Lib.SliceRun
import Derived.Lib.Hide
import Derived.Outline
set_option linter.unusedVariables false
set_option linter.unusedSimpArgs false
namespace Go.Proofs.YtcakmchefbohoaaGreatDoor
open Go.RowKit

/-- A part of a row. -/
theorem RdRg.sub {w : World} {b o n cap : Nat} {f : List Rg} (h : RdRg w (.slice (some ⟨b, o, none⟩) n cap) f) (i j o2 n2 c2 : Nat) (hij : i < j) (hj : j ≤ f.length) (ho : o2 = o + i * 3) (hn2 : n2 = j - i) (hc : c2 = cap - i) :
    RdRg w (.slice (some ⟨b, o2, none⟩) n2 c2) ((f.drop i).take (j - i)) := by
  obtain ⟨a', cap', e, h1, h2, h3⟩ := h
  cases e
  have hl : ((f.drop i).take (j - i)).length = j - i := by rw [List.length_take, List.length_drop]; omega
  refine ⟨_, _, rfl.trans (by rw [hn2, hl]), ?_, ?_, fun h0 => ?_⟩
  · rw [hl]; omega
  · omega
  · obtain ⟨b', o', e, hb, hcl⟩ := h3 (by omega)
    cases e
    refine ⟨b, o2, rfl, hb, fun q hq => ?_⟩
    rw [hl] at hq
    have := hcl (q + i * 3) (by omega)
    rw [show o2 + q = o + (q + i * 3) by omega, this]
    unfold rgc
    rw [show (q + i * 3) / 3 = q / 3 + i by omega, show (q + i * 3) % 3 = q % 3 by omega]
    congr 1
    unfold rgnth
    rw [List.getD_eq_getElem?_getD, List.getD_eq_getElem?_getD, List.getElem?_take_of_lt (by omega), List.getElem?_drop, Nat.add_comm]
/-- The contract of l20Modal at one tree. -/
def Mod1 (box : Bool) (x : Rg) (k : FRg) : Prop := ∀ (v vf vb : Value) (f : List Nd) (d : Nat) (w : World), RdRg w v (x :: k.flat) → RdNd w vf f → RdI w vb (upto d) → f.length ≤ 30 → d ≤ 3 →
  Calls Tryz.prog 38 #[v, .bool box, vf, vb] w fun e w' => ∃ u, e = .returned (.tuple #[u, .bool (opMS box x (FRg.fold (opMS box) k) f d).isSome]) ∧ (∀ l, opMS box x (FRg.fold (opMS box) k) f d = some l → OwNd w' w.heap.size u l) ∧ Below w.heap.size w w'
theorem keepR {w W : World} {b o : Nat} {x : Rg} {ob : Obj} (hb : b < w.heap.size) (h : Below w.heap.size w W ∧ W.cell? ⟨b, o + 1, none⟩ = some (.string x.lab) ∧ W.cell? ⟨b, o + 2, none⟩ = some (.bool x.neg)) : Below w.heap.size w (W.alloc ob) ∧ (W.alloc ob).cell? ⟨b, o + 1, none⟩ = some (.string x.lab) ∧ (W.alloc ob).cell? ⟨b, o + 2, none⟩ = some (.bool x.neg) := by
  have hz := h.1.size
  have hB : Below w.heap.size W (W.alloc ob) := (Below.refl _ _).alloc hz _
  exact ⟨h.1.alloc hz _, (hB.cell (p := ⟨b, o + 1, none⟩) hb).trans h.2.1, (hB.cell (p := ⟨b, o + 2, none⟩) hb).trans h.2.2⟩
theorem keepG {w W W' : World} {b o : Nat} {x : Rg} (hb : b < w.heap.size) (h : Below w.heap.size w W ∧ W.cell? ⟨b, o + 1, none⟩ = some (.string x.lab) ∧ W.cell? ⟨b, o + 2, none⟩ = some (.bool x.neg)) (hg : W.grownBy W' none) : Below w.heap.size w W' ∧ W'.cell? ⟨b, o + 1, none⟩ = some (.string x.lab) ∧ W'.cell? ⟨b, o + 2, none⟩ = some (.bool x.neg) := by
  have hB : Below w.heap.size W W' := (Below.refl _ _).grown hg h.1.size (fun k hk => by cases hk)
  exact ⟨h.1.trans hB, (hB.cell (p := ⟨b, o + 1, none⟩) hb).trans h.2.1, (hB.cell (p := ⟨b, o + 2, none⟩) hb).trans h.2.2⟩
theorem ret_bool {u : Value} {p q : Prop} [Decidable p] [Decidable q] (h : p ↔ q) : Ending.returned (.tuple #[u, .bool (decide p)]) = Ending.returned (.tuple #[u, .bool (decide q)]) := by rw [decide_eq_decide.2 h]
theorem own_up {w : World} {base base' e sz n : Nat} {v : Value} {xs : List Value} (h : w.ownsRow base e sz v n xs) (hb : base' ≤ base) : w.ownsRow base' e sz v n xs := by
  obtain ⟨h1, h2⟩ := h
  refine ⟨h1, ?_⟩
  rcases h2 with h2 | ⟨g, cap, cur, e1, e2, e3⟩
  · exact Or.inl h2
  · exact Or.inr ⟨g, cap, cur, e1, Nat.le_trans hb e2, e3⟩
set_option maxRecDepth 100000 in
set_option maxHeartbeats 1600000 in
theorem modS_test (box : Bool) (x : Rg) (k : FRg) (hk0 : x.kind = 0) (hlen : (x :: k.flat).length ≤ 1048576) : Mod1 box x k := by
  intro v vf vb f d w hv hvf hvb hf hd
  have HVF := Lib.hid hvf
  have HVB := Lib.hid hvb
  have HV := Lib.hid hv
  obtain ⟨i0, hi, hz0, hz1, hz2⟩ := info_parts infoNd
  obtain ⟨a, cap, rfl, hcap, hcm, hv'⟩ := id hv
  obtain ⟨b, o, rfl, hb, g0, g1, g2⟩ := RdRg.cells hv (i := 0) (by simp)
  have e0 : rgnth (x :: k.flat) 0 = x := rfl
  rw [e0] at g0 g1 g2
  rw [Nat.zero_mul, Nat.add_zero] at g0 g1 g2
  obtain ⟨L, hL⟩ : ∃ L, L = f.length := ⟨_, rfl⟩
  have HB : Hid ((opMS box x (FRg.fold (opMS box) k) f d).isSome = decide (L + 1 ≤ 30)) := Lib.hid (by rw [opMS_test hk0, gate_isSome, hL]; rfl)
  have HQ : Hid (∀ l, opMS box x (FRg.fold (opMS box) k) f d = some l → l = mTest box x f) := Lib.hid (fun l h => by rw [opMS_test hk0] at h; exact (gate_some h).1)
  rw [HB.out]
  rw [hk0] at g0
  obtain ⟨n, hxn⟩ : ∃ n, n = (x :: k.flat).length := ⟨_, rfl⟩
  rw [← hxn] at hcap hlen ⊢
  have hn0 : 0 < n := by rw [hxn]; simp
  rw [← hL] at hf
  have HL := Lib.hid hL
  clear hxn hv hv' e0 hk0 hvf hvb hL HB HV
  cases box with
  | true =>
    obtain ⟨Y, hY⟩ : ∃ Y : Nd, Y = ⟨5, 0, x.lab, x.neg⟩ := ⟨_, rfl⟩
    have HM : Hid (mTest true x f = [Y] ++ f) := Lib.hid (by rw [hY]; rfl)
    rw [HM.out] at HQ
    have HY := Lib.hid hY
    clear HM hY
    go_enter Tryz.func38, Tryz.ntmps38
    go_wp2_with fail
    have hbA : Below w.heap.size w (w.alloc (.cells #[] 65)).drew := ((Below.refl _ _).alloc (Nat.le_refl _) _).trans ⟨rfl, rfl, rfl, Nat.le_refl _, fun _ _ => rfl⟩
    have c1 := (hbA.cell (p := ⟨b, o + 1, none⟩) hb).trans g1
    have c2 := (hbA.cell (p := ⟨b, o + 2, none⟩) hb).trans g2
    have hN : ∀ j u, ([.int .i64 5, .int .i64 0, .string x.lab, .bool x.neg] : List Value)[j]? = some u → ((w.alloc (.cells #[] 65)).alloc (.cells #[.int .i64 5, .int .i64 0, .string x.lab, .bool x.neg] 65)).drew.cell? ((⟨w.heap.size + 1, 0, none⟩ : Addr).add j) = some u := World.news_of_block (cs := #[.int .i64 5, .int .i64 0, .string x.lab, .bool x.neg]) (by have h := heap_alloc_new (w.alloc (.cells #[] 65)) (.cells #[.int .i64 5, .int .i64 0, .string x.lab, .bool x.neg] 65); rw [show (w.alloc (.cells #[] 65)).heap.size = w.heap.size + 1 by simp] at h; exact h)
    go_region_held3 (fun W => Below w.heap.size w W ∧ W.cell? ⟨b, o + 1, none⟩ = some (.string x.lab) ∧ W.cell? ⟨b, o + 2, none⟩ = some (.bool x.neg)) ((first | exact ⟨hbA, c1, c2⟩ | exact keepR hb (by assumption) | exact hG1)) ((first | (refine step_append_grows rfl _ _ _ rfl 65 i0 (.agg #[.int .i64 0, .int .i64 0, .string ByteArray.empty, .bool false]) 4 40 Tryz.underlying26 hi hz0 hz1 hz2 rfl (by decide) _ 0 0 [] rfl (by simp) rfl (by simp) _ 1 1 [.int .i64 5, .int .i64 0, .string x.lab, .bool x.neg] rfl rfl hN (by simp [Value.oneCell']) (by decide) (by unfold maxLen; decide) (by decide) ?_; intro v1 w1 hown1 hgrow1; have hG1 := keepG hb (by assumption) hgrow1) | fail))
    all_goals
      have hb1 := hG1.1
      have HO1 : Hid (w1.ownsRow w.heap.size 65 4 v1 1 (ndCells [Y])) := Lib.hid (by rw [ndCells_single, HY.out]; exact own_up hown1 (by simp; omega))
      obtain ⟨a1, q1, rfl⟩ := owned_slice HO1.out
      have hs1 := hb1.size
      clear hown1 hgrow1 hG1 hN c1 c2 hbA
      go_wp2_with (at_builtin; refine wpList_append_nd rfl _ _ rfl w.heap.size _ _ 1 [Y] f rfl rfl rfl HO1.out (HVF.out.below hb1) (by have := HL.out; simp; omega) hs1 w.heap.size w hb1 (Nat.le_refl _) ?_; intro v5 w5 hown5 hbl5; obtain ⟨a6, q6, rfl⟩ := owned_slice hown5.out)
      trace_state
      go_ret2
      exact ⟨_, ret_bool (by have := HL.out; simp; omega), fun l hl => by rw [HQ.out l hl]; exact own_nd hown5.out, hbl5⟩
  | false =>
    obtain ⟨Y, hY⟩ : ∃ Y : Nd, Y = ⟨4, 0, x.lab, x.neg⟩ := ⟨_, rfl⟩
    have HM : Hid (mTest false x f = [Y] ++ f) := Lib.hid (by rw [hY]; rfl)
    rw [HM.out] at HQ
    have HY := Lib.hid hY
    clear HM hY
    go_enter Tryz.func38, Tryz.ntmps38
    go_wp2_with fail
    have hbA : Below w.heap.size w (w.alloc (.cells #[] 65)).drew := ((Below.refl _ _).alloc (Nat.le_refl _) _).trans ⟨rfl, rfl, rfl, Nat.le_refl _, fun _ _ => rfl⟩
    have c1 := (hbA.cell (p := ⟨b, o + 1, none⟩) hb).trans g1
    have c2 := (hbA.cell (p := ⟨b, o + 2, none⟩) hb).trans g2
    have hN : ∀ j u, ([.int .i64 4, .int .i64 0, .string x.lab, .bool x.neg] : List Value)[j]? = some u → ((w.alloc (.cells #[] 65)).alloc (.cells #[.int .i64 4, .int .i64 0, .string x.lab, .bool x.neg] 65)).drew.cell? ((⟨w.heap.size + 1, 0, none⟩ : Addr).add j) = some u := World.news_of_block (cs := #[.int .i64 4, .int .i64 0, .string x.lab, .bool x.neg]) (by have h := heap_alloc_new (w.alloc (.cells #[] 65)) (.cells #[.int .i64 4, .int .i64 0, .string x.lab, .bool x.neg] 65); rw [show (w.alloc (.cells #[] 65)).heap.size = w.heap.size + 1 by simp] at h; exact h)
    go_region_held3 (fun W => Below w.heap.size w W ∧ W.cell? ⟨b, o + 1, none⟩ = some (.string x.lab) ∧ W.cell? ⟨b, o + 2, none⟩ = some (.bool x.neg)) ((first | exact ⟨hbA, c1, c2⟩ | exact keepR hb (by assumption) | exact hG1)) ((first | (refine step_append_grows rfl _ _ _ rfl 65 i0 (.agg #[.int .i64 0, .int .i64 0, .string ByteArray.empty, .bool false]) 4 40 Tryz.underlying26 hi hz0 hz1 hz2 rfl (by decide) _ 0 0 [] rfl (by simp) rfl (by simp) _ 1 1 [.int .i64 4, .int .i64 0, .string x.lab, .bool x.neg] rfl rfl hN (by simp [Value.oneCell']) (by decide) (by unfold maxLen; decide) (by decide) ?_; intro v1 w1 hown1 hgrow1; have hG1 := keepG hb (by assumption) hgrow1) | fail))
    all_goals
      have hb1 := hG1.1
      have HO1 : Hid (w1.ownsRow w.heap.size 65 4 v1 1 (ndCells [Y])) := Lib.hid (by rw [ndCells_single, HY.out]; exact own_up hown1 (by simp; omega))
      obtain ⟨a1, q1, rfl⟩ := owned_slice HO1.out
      have hs1 := hb1.size
      clear hown1 hgrow1 hG1 hN c1 c2 hbA
      go_wp2_with (at_builtin; refine wpList_append_nd rfl _ _ rfl w.heap.size _ _ 1 [Y] f rfl rfl rfl HO1.out (HVF.out.below hb1) (by have := HL.out; simp; omega) hs1 w.heap.size w hb1 (Nat.le_refl _) ?_; intro v5 w5 hown5 hbl5; obtain ⟨a6, q6, rfl⟩ := owned_slice hown5.out)
      trace_state
      go_ret2
      exact ⟨_, ret_bool (by have := HL.out; simp; omega), fun l hl => by rw [HQ.out l hl]; exact own_nd hown5.out, hbl5⟩
end Go.Proofs.YtcakmchefbohoaaGreatDoor
