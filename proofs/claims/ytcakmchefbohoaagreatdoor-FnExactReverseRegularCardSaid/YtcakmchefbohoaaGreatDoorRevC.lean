/- Contracts: ReverseRegular of the reference. -/
import Derived.Test.YtcakmchefbohoaaGreatDoorProg
import Derived.Test.YtcakmchefbohoaaGreatDoorMem
import Derived.Test.YtcakmchefbohoaaGreatDoorMath
import Derived.Test.YtcakmchefbohoaaGreatDoorBasics
import Derived.Test.YtcakmchefbohoaaGreatDoorOpenI
import Derived.Test.YtcakmchefbohoaaGreatDoorHelpI
import Derived.Test.YtcakmchefbohoaaGreatDoorGrid
import Derived.Test.YtcakmchefbohoaaGreatDoorLab
import Derived.Test.YtcakmchefbohoaaGreatDoorDec
import Derived.Test.YtcakmchefbohoaaGreatDoorEnv
import Derived.Test.YtcakmchefbohoaaGreatDoorRLab
import Derived.Test.YtcakmchefbohoaaGreatDoorReg
import Derived.Test.YtcakmchefbohoaaGreatDoorRegW
import Derived.Test.YtcakmchefbohoaaGreatDoorVReg
import Derived.Test.YtcakmchefbohoaaGreatDoorTreeR
import Derived.Test.YtcakmchefbohoaaGreatDoorConc
import Derived.Test.YtcakmchefbohoaaGreatDoorEmp
import Derived.Test.YtcakmchefbohoaaGreatDoorRgs
import Derived.WalkKit
import Derived.BigQuiet
import Derived.BigRegion
import Derived.Deep.QuietTactic
import Derived.Maps.AppendAt
import Derived.Laws.OwnMore
import Derived.Lib.SliceRun
import Derived.Maps.Range
import Derived.Deep.AppendLies
import Derived.Deep.RegionLaw
import Derived.Lib.Hide
import Derived.Outline
set_option linter.unusedVariables false
set_option linter.unusedSimpArgs false
namespace Go.Proofs.YtcakmchefbohoaaGreatDoor
open Go.RowKit

theorem infoRR : (Tryz.prog.info? 29).map (fun i => (i.zero, i.size, i.bytes)) = some (some (.slice none 0 0), 1, 24) := by kernel_rfl
theorem own_len {w : World} {base e q n1 n2 c : Nat} {xs : List Value} {a : Option Addr} {v' : Value} (h : w.ownsRow base e 1 v' q (xs ++ [.slice a n1 c])) (hn : n1 = n2) : w.ownsRow base e 1 v' q (xs ++ [.slice a n2 c]) := hn ▸ h
set_option maxRecDepth 100000 in
set_option maxHeartbeats 4000000 in
theorem spec_ReverseRegular_any (v : Value) (f : List Rg) (w : World) (hn : f.length ≤ 1048576) (hls : ∀ i, i < f.length → (rgnth f i).lab.size ≤ 1048576) (hv : RdRg w v f) :
    Calls Tryz.prog 26 #[v] w fun e w' => ∃ u, e = .returned (.tuple #[u, .int .i64 (revC f)]) ∧ OwRg w' w.heap.size u (revL f) ∧ Below w.heap.size w w' := by
  have HV := Lib.hid hv
  obtain ⟨a, cap, rfl⟩ := hv.slice
  clear hv
  cases hvm : validR f with
  | false =>
    have hM : Hid (revL f = []) := Lib.hid (by unfold revL; rw [hvm]; rfl)
    have hC : Hid (revC f = 1) := Lib.hid (by unfold revC; rw [hvm]; rfl)
    rw [hM.out, hC.out]
    go_enter Tryz.func26, Tryz.ntmps26
    go_wp2_with fail
    refine (l20Is_any _ f _ hn hls HV.out).mono ?_
    rw [hvm]
    rintro e w1 ⟨rfl, hb1⟩
    go_wp2_with fail
    go_ret2
    exact ⟨_, rfl, OwRg_zero _ _, hb1⟩
  | true =>
    have hC : Hid (revC f = 0) := Lib.hid (by unfold revC; rw [hvm]; rfl)
    have hM : Hid (revL f = ((FRg.build f).fold opR).getD 0 []) := Lib.hid (by unfold revL; rw [hvm]; rfl)
    rw [hC.out]
    have HVM := Lib.hid hvm
    obtain ⟨n, hxn⟩ : ∃ n, n = f.length := ⟨_, rfl⟩
    rw [← hxn] at HV hn ⊢
    have Hxn := Lib.hid hxn
    obtain ⟨i0, hi, hz0, hz1, hz2⟩ := info_parts infoRR
    clear hxn
    go_enter Tryz.func26, Tryz.ntmps26
    go_wp2_with fail
    refine (l20Is_any _ f _ (by rw [← Hxn.out]; exact hn) hls (by exact HV.out)).mono ?_
    rw [hvm]
    rintro e w1 ⟨rfl, hb1⟩
    clear hvm
    go_wp2_with fail
    go_loopw [4, 5] (fun st si wr => ∃ (j m : Nat) (l : List (List Rg)), j ≤ n ∧ si = .int .i64 ((j : Int) - 1) ∧ Hid (l = (FRg.build (f.drop j)).fold opR) ∧ Hid (m = l.length) ∧ m ≤ 1048576 ∧ Hid (∃ a c, st = .slice a m c) ∧ Hid (StkR wr w.heap.size 29 63 st l.reverse) ∧ Below w.heap.size w wr)
      (fun _ si _ => (intOf si + 1).toNat)
    case atStart => exact ⟨n, 0, [], Nat.le_refl _, rfl, Lib.hid (by rw [Hxn.out, List.drop_length]; rfl), Lib.hid rfl, by omega, Lib.hid ⟨_, _, rfl⟩, Lib.hid ⟨[], nil_owned _ _ hb1.size, fun i hi => absurd hi (by simp)⟩, hb1.alloc hb1.size _⟩
    case round =>
      clear hb1
      obtain ⟨j, m, l, hj, rfl, HL, HM, hm2, HSl, HS, hbl⟩ := hrel
      obtain ⟨ast, cst, rfl⟩ := HSl.out
      have hwl := hbl.size
      by_cases hj0 : 0 < j
      · obtain ⟨i, rfl⟩ : ∃ i, j = i + 1 := ⟨j - 1, by omega⟩
        have hi1 : (((i + 1 : Nat) : Int) - 1) = (i : Int) := by omega
        rw [hi1]
        have hkf : i < f.length := by rw [← Hxn.out]; omega
        obtain ⟨b, o, rfl, hb, g0, g1, g2⟩ := RdRg.cells HV.out hkf
        have q0 := (hbl.cell (by exact hb)).trans g0
        have q1 := (hbl.cell (by exact hb)).trans g1
        have q2 := (hbl.cell (by exact hb)).trans g2
        have hkd := validR_kind HVM.out i hkf
        obtain ⟨hst1, hst2⟩ := validR_stepG opR HVM.out hkf
        have hfll : l.flatten.length ≤ 1048576 := by
          rw [HL.out, fold_flat_len, FRg.flat_build, List.length_drop, ← Hxn.out]; omega
        have hml : m ≤ n - (i + 1) := by
          have h1 := FRg.len_le_flat (FRg.build (f.drop (i + 1)))
          rw [FRg.flat_build, List.length_drop, ← FRg.fold_len opR, ← HL.out, ← HM.out, ← Hxn.out] at h1
          exact h1
        rw [← HL.out] at hst1 hst2
        obtain ⟨Y, hY⟩ : ∃ Y, Y = rgnth f i := ⟨_, rfl⟩
        rw [← hY] at q0 q1 q2 hkd hst1 hst2
        obtain ⟨kd, hk⟩ : ∃ kd, kd = Y.kind := ⟨_, rfl⟩
        rw [← hk] at q0 hkd hst2
        have hkr := inR_true hkd
        have hc : kd = 0 ∨ kd = 1 ∨ kd = 2 ∨ kd = 3 := by omega
        have hin : i < n := by omega
        obtain ⟨vs, hSv⟩ := HS.out
        clear hY g0 g1 g2 hkd hkr hi1 HS HSl
        rcases hc with rfl | rfl | rfl | rfl
        · have HL2 : Hid ([Y] :: l = (FRg.build (f.drop i)).fold opR) := Lib.hid (by rw [hst1, ← hk]; simp [opR, ← hk, rarity])
          have HQ : Hid (l.reverse.length = m) := Lib.hid (by rw [List.length_reverse, ← HM.out])
          have HSK := Lib.hid hSv
          have hbX : Below wr.heap.size wr (wr.alloc (.cells #[.int .i64 0, .string Y.lab, .bool Y.neg] 63)) := (Below.refl _ _).alloc (Nat.le_refl _) _
          have HX : Hid ((wr.alloc (.cells #[.int .i64 0, .string Y.lab, .bool Y.neg] 63)).ownsRow wr.heap.size 63 3 (.slice (some ⟨wr.heap.size, 0, none⟩) 1 1) [Y].length (rgCells [Y])) := Lib.hid (rg_made hk)
          have s0 := (hbX.cell (by exact Nat.lt_of_lt_of_le hb hwl)).trans q0
          have HOs : Hid ((wr.alloc (.cells #[.int .i64 0, .string Y.lab, .bool Y.neg] 63)).ownsRow w.heap.size 29 1 (.slice ast m cst) m vs) := Lib.hid (by
            have := ownsRow_below hSv.1 hbX
            rwa [HQ.out] at this)
          clear hst1 hst2 hk hSv
          go_wp2_with (at_builtin; refine wpList_append_own_at _ rfl _ _ 85 rfl w.heap.size 29 i0 (.slice none 0 0) 1 24 Tryz.underlying85 hi hz0 hz1 hz2 rfl (by decide) _ m _ rfl (HOs.out.alloc _) ⟨_, 0, none⟩ 1 1 [.slice (some ⟨wr.heap.size, 0, none⟩) 1 1] rfl rfl (new_cell _ _ _ _ (by simp)) (by intro u hu; simp at hu; subst hu; rfl) ?c2 ?c3 ?c4 ?_)
          case c2 => unfold maxLen; omega
          case c3 => omega
          case c4 => have := hbX.size; simp at this ⊢; omega
          intro v' w7 hown' hgrow hnil hloc
          have hbl7 : Below w.heap.size w w7 := ((hbl.trans (hbX.mono hwl)).alloc (by have := hbX.size; omega) _).grown hgrow (by have := hbX.size; simp at this ⊢; omega) (fun j hj => (HOs.out.lt j hj).1)
          have HS7 : Hid (StkR w7 w.heap.size 29 63 v' (([Y] :: l).reverse)) := Lib.hid (by
            rw [List.reverse_cons]
            exact HSK.out.push hbX HX.out hwl (by rw [show (List.length _) = m from HQ.out]; exact hown') ((World.grownBy_alloc _ _ _).trans hgrow) (hloc.imp id fun e => ⟨_, e, by simp⟩))
          obtain ⟨a7, c7, rfl⟩ := owned_slice hown'
          have HSl7 : Hid (∃ a c, Value.slice a7 (m + 1) c7 = .slice a (m + 1) c) := Lib.hid ⟨_, _, rfl⟩
          have HM7 : Hid (m + 1 = ([Y] :: l).length) := Lib.hid (by rw [List.length_cons]; have := HQ.out; rw [List.length_reverse] at this; omega)
          clear hown' hgrow hnil hloc
          go_wp2_with fail
          go_roundw
          case rel => exact ⟨i, m + 1, [Y] :: l, by omega, rfl, HL2, HM7, by omega, HSl7, HS7, hbl7⟩
          case measure => simp [intOf] <;> omega
        · have hl2 : 2 ≤ l.length := by rw [rarity_two (Or.inl rfl)] at hst2; exact hst2
          obtain ⟨u, v, l0, rfl⟩ : ∃ u v l0, l = u :: v :: l0 := by
            match l, hl2 with
            | u :: v :: l0, _ => exact ⟨u, v, l0, rfl⟩
          obtain ⟨q, hq⟩ : ∃ q, q = l0.length := ⟨_, rfl⟩
          obtain rfl : m = q + 1 + 1 := by have := HM.out; simp only [List.length_cons] at this; omega
          have hll : (u :: v :: l0).reverse.length = q + 1 + 1 := by rw [List.length_reverse]; exact HM.out.symm
          obtain ⟨vu, eu, ou, nu⟩ := hSv.2 (q + 1) (by rw [hll]; omega)
          obtain ⟨vv, ev, ov, nv⟩ := hSv.2 q (by rw [hll]; omega)
          have lu : lnth (u :: v :: l0).reverse (q + 1) = u := by simp [lnth, hq]
          have lv' : lnth (u :: v :: l0).reverse q = v := by simp [lnth, hq]
          rw [lu] at ou
          rw [lv'] at ov
          have hown := hSv.1
          rw [hll] at hown
          obtain ⟨g, rfl, hg, hcap⟩ := owned_pos hown (by omega)
          have t0 := (hown.cellAt (q + 1) (by omega)).trans eu
          obtain ⟨au, cu, rfl⟩ := owned_slice ou
          have t1 := (hown.cellAt q (by omega)).trans ev
          obtain ⟨av, cv, rfl⟩ := owned_slice ov
          have HL2 : Hid ((([Y] ++ v) ++ u) :: l0 = (FRg.build (f.drop i)).fold opR) := Lib.hid (by rw [hst1, ← hk]; simp [opR, ← hk, rarity])
          have HQ : Hid (((u :: v :: l0).reverse.take q).length = q) := Lib.hid (by rw [List.length_take, hll]; omega)
          have hT : (u :: v :: l0).reverse.take q = l0.reverse := by simp [hq]
          have HSK : Hid (StkRv wr w.heap.size 29 63 (.slice (some ⟨g, 0, none⟩) q cst) l0.reverse (vs.take q)) := Lib.hid (by
            have := hSv.shrink hll.symm (k := q) (by omega)
            rwa [hT] at this)
          rw [hT] at HQ
          have HU := Lib.hid (own_rg ou)
          have HVv := Lib.hid (own_rg ov)
          have hbX : Below wr.heap.size wr (wr.alloc (.cells #[.int .i64 1, .string Y.lab, .bool Y.neg] 63)) := (Below.refl _ _).alloc (Nat.le_refl _) _
          have HX : Hid ((wr.alloc (.cells #[.int .i64 1, .string Y.lab, .bool Y.neg] 63)).ownsRow wr.heap.size 63 3 (.slice (some ⟨wr.heap.size, 0, none⟩) 1 1) [Y].length (rgCells [Y])) := Lib.hid (rg_made hk)
          have s0 := (hbX.cell (by exact Nat.lt_of_lt_of_le hb hwl)).trans q0
          have hul : u.length + v.length ≤ 1048576 := by simp only [List.flatten_cons, List.length_append] at hfll; omega
          have e0 := (hbX.cell (by exact (hown.lt g rfl).2)).trans t0
          have e1 := (hbX.cell (by exact (hown.lt g rfl).2)).trans t1
          have hi1 : ((q + 1 + 1 : Nat) : Int) - 1 = ((q + 1 : Nat) : Int) := by omega
          have Hgl := Lib.hid (hown.lt g rfl).2
          clear hst1 hst2 hk hl2 hown hll eu ou nu lu HL HM hSv hT hfll hq ev ov nv lv'
          go_wp2_with (at_builtin; refine wpList_append_rg rfl _ _ rfl wr.heap.size _ _ ([Y]).length ([Y]) (v) rfl rfl rfl HX.out (HVv.out.rd.below hbX) (by simp only [List.length_append, List.length_cons, List.length_nil]; omega) (by have := hbX.size; omega) wr.heap.size wr hbX (Nat.le_refl _) ?_)
          intro x5 w5 hx5 hb5
          have HX5 : Hid (w5.ownsRow wr.heap.size 63 3 x5 ([Y] ++ v).length (rgCells ([Y] ++ v))) := Lib.hid (by rw [List.length_append]; exact hx5.out)
          obtain ⟨ax5, cx5, rfl⟩ := owned_slice HX5.out
          clear hx5
          have k0 := (hb5.cell (by exact Hgl.out)).trans t0
          have k1 := (hb5.cell (by exact Hgl.out)).trans t1
          clear e0 e1
          go_wp2_with (at_builtin; refine wpList_append_rg rfl _ _ rfl wr.heap.size _ _ ([Y] ++ v).length ([Y] ++ v) (u) rfl rfl rfl HX5.out (HU.out.rd.below hb5) (by simp only [List.length_append, List.length_cons, List.length_nil]; omega) (by have := hb5.size; omega) wr.heap.size wr hb5 (Nat.le_refl _) ?_)
          intro x6 w6 hx6 hb6
          have HX6 : Hid (w6.ownsRow wr.heap.size 63 3 x6 (([Y] ++ v) ++ u).length (rgCells (([Y] ++ v) ++ u))) := Lib.hid (by rw [List.length_append]; exact hx6.out)
          obtain ⟨ax6, cx6, rfl⟩ := owned_slice HX6.out
          clear hx6
          have HOs : Hid (w6.ownsRow w.heap.size 29 1 (.slice (some ⟨g, 0, none⟩) q cst) q (vs.take q)) := Lib.hid (by
            have := ownsRow_below HSK.out.1 hb6
            rwa [HQ.out] at this)
          go_wp2_with (at_builtin; refine wpList_append_own_at _ rfl _ _ 85 rfl w.heap.size 29 i0 (.slice none 0 0) 1 24 Tryz.underlying85 hi hz0 hz1 hz2 rfl (by decide) _ q _ rfl (HOs.out.alloc _) ⟨_, 0, none⟩ 1 1 [.slice ax6 _ cx6] rfl rfl (new_cell _ _ _ _ (by simp)) (by intro u hu; simp at hu; subst hu; rfl) ?c2 ?c3 ?c4 ?_)
          case c2 => unfold maxLen; omega
          case c3 => omega
          case c4 => have := hb6.size; simp at this ⊢; omega
          intro v' w7 hown' hgrow hnil hloc
          have hbl7 : Below w.heap.size w w7 := ((hbl.trans (hb6.mono hwl)).alloc (by have := hb6.size; omega) _).grown hgrow (by have := hb6.size; simp at this ⊢; omega) (fun j hj => (HOs.out.lt j hj).1)
          have HS7 : Hid (StkR w7 w.heap.size 29 63 v' (((([Y] ++ v) ++ u) :: l0).reverse)) := Lib.hid (by
            rw [List.reverse_cons]
            exact HSK.out.push hb6 HX6.out hwl (by rw [show (List.length _) = q from HQ.out]; first | exact hown' | exact own_len hown' (by first | (simp; done) | (simp; omega))) ((World.grownBy_alloc _ _ _).trans hgrow) (hloc.imp id fun e => ⟨_, e, by simp⟩))
          obtain ⟨a7, c7, rfl⟩ := owned_slice hown'
          have HSl7 : Hid (∃ a c, Value.slice a7 (q + 1) c7 = .slice a (q + 1) c) := Lib.hid ⟨_, _, rfl⟩
          have HM7 : Hid (q + 1 = ((([Y] ++ v) ++ u) :: l0).length) := Lib.hid (by rw [List.length_cons]; have := HQ.out; rw [List.length_reverse] at this; omega)
          clear hown' hgrow hnil hloc
          go_wp2_with fail
          go_roundw
          case rel => exact ⟨i, q + 1, (([Y] ++ v) ++ u) :: l0, by omega, rfl, HL2, HM7, by omega, HSl7, HS7, hbl7⟩
          case measure => simp [intOf] <;> omega
        · have hl2 : 2 ≤ l.length := by rw [rarity_two (Or.inr rfl)] at hst2; exact hst2
          obtain ⟨u, v, l0, rfl⟩ : ∃ u v l0, l = u :: v :: l0 := by
            match l, hl2 with
            | u :: v :: l0, _ => exact ⟨u, v, l0, rfl⟩
          obtain ⟨q, hq⟩ : ∃ q, q = l0.length := ⟨_, rfl⟩
          obtain rfl : m = q + 1 + 1 := by have := HM.out; simp only [List.length_cons] at this; omega
          have hll : (u :: v :: l0).reverse.length = q + 1 + 1 := by rw [List.length_reverse]; exact HM.out.symm
          obtain ⟨vu, eu, ou, nu⟩ := hSv.2 (q + 1) (by rw [hll]; omega)
          obtain ⟨vv, ev, ov, nv⟩ := hSv.2 q (by rw [hll]; omega)
          have lu : lnth (u :: v :: l0).reverse (q + 1) = u := by simp [lnth, hq]
          have lv' : lnth (u :: v :: l0).reverse q = v := by simp [lnth, hq]
          rw [lu] at ou
          rw [lv'] at ov
          have hown := hSv.1
          rw [hll] at hown
          obtain ⟨g, rfl, hg, hcap⟩ := owned_pos hown (by omega)
          have t0 := (hown.cellAt (q + 1) (by omega)).trans eu
          obtain ⟨au, cu, rfl⟩ := owned_slice ou
          have t1 := (hown.cellAt q (by omega)).trans ev
          obtain ⟨av, cv, rfl⟩ := owned_slice ov
          have HL2 : Hid ((([Y] ++ u) ++ v) :: l0 = (FRg.build (f.drop i)).fold opR) := Lib.hid (by rw [hst1, ← hk]; simp [opR, ← hk, rarity])
          have HQ : Hid (((u :: v :: l0).reverse.take q).length = q) := Lib.hid (by rw [List.length_take, hll]; omega)
          have hT : (u :: v :: l0).reverse.take q = l0.reverse := by simp [hq]
          have HSK : Hid (StkRv wr w.heap.size 29 63 (.slice (some ⟨g, 0, none⟩) q cst) l0.reverse (vs.take q)) := Lib.hid (by
            have := hSv.shrink hll.symm (k := q) (by omega)
            rwa [hT] at this)
          rw [hT] at HQ
          have HU := Lib.hid (own_rg ou)
          have HVv := Lib.hid (own_rg ov)
          have hbX : Below wr.heap.size wr (wr.alloc (.cells #[.int .i64 2, .string Y.lab, .bool Y.neg] 63)) := (Below.refl _ _).alloc (Nat.le_refl _) _
          have HX : Hid ((wr.alloc (.cells #[.int .i64 2, .string Y.lab, .bool Y.neg] 63)).ownsRow wr.heap.size 63 3 (.slice (some ⟨wr.heap.size, 0, none⟩) 1 1) [Y].length (rgCells [Y])) := Lib.hid (rg_made hk)
          have s0 := (hbX.cell (by exact Nat.lt_of_lt_of_le hb hwl)).trans q0
          have hul : u.length + v.length ≤ 1048576 := by simp only [List.flatten_cons, List.length_append] at hfll; omega
          have e0 := (hbX.cell (by exact (hown.lt g rfl).2)).trans t0
          have e1 := (hbX.cell (by exact (hown.lt g rfl).2)).trans t1
          have hi1 : ((q + 1 + 1 : Nat) : Int) - 1 = ((q + 1 : Nat) : Int) := by omega
          have Hgl := Lib.hid (hown.lt g rfl).2
          clear hst1 hst2 hk hl2 hown hll eu ou nu lu HL HM hSv hT hfll hq ev ov nv lv'
          go_wp2_with (at_builtin; refine wpList_append_rg rfl _ _ rfl wr.heap.size _ _ ([Y]).length ([Y]) (u) rfl rfl rfl HX.out (HU.out.rd.below hbX) (by simp only [List.length_append, List.length_cons, List.length_nil]; omega) (by have := hbX.size; omega) wr.heap.size wr hbX (Nat.le_refl _) ?_)
          intro x5 w5 hx5 hb5
          have HX5 : Hid (w5.ownsRow wr.heap.size 63 3 x5 ([Y] ++ u).length (rgCells ([Y] ++ u))) := Lib.hid (by rw [List.length_append]; exact hx5.out)
          obtain ⟨ax5, cx5, rfl⟩ := owned_slice HX5.out
          clear hx5
          have k0 := (hb5.cell (by exact Hgl.out)).trans t0
          have k1 := (hb5.cell (by exact Hgl.out)).trans t1
          clear e0 e1
          go_wp2_with (at_builtin; refine wpList_append_rg rfl _ _ rfl wr.heap.size _ _ ([Y] ++ u).length ([Y] ++ u) (v) rfl rfl rfl HX5.out (HVv.out.rd.below hb5) (by simp only [List.length_append, List.length_cons, List.length_nil]; omega) (by have := hb5.size; omega) wr.heap.size wr hb5 (Nat.le_refl _) ?_)
          intro x6 w6 hx6 hb6
          have HX6 : Hid (w6.ownsRow wr.heap.size 63 3 x6 (([Y] ++ u) ++ v).length (rgCells (([Y] ++ u) ++ v))) := Lib.hid (by rw [List.length_append]; exact hx6.out)
          obtain ⟨ax6, cx6, rfl⟩ := owned_slice HX6.out
          clear hx6
          have HOs : Hid (w6.ownsRow w.heap.size 29 1 (.slice (some ⟨g, 0, none⟩) q cst) q (vs.take q)) := Lib.hid (by
            have := ownsRow_below HSK.out.1 hb6
            rwa [HQ.out] at this)
          go_wp2_with (at_builtin; refine wpList_append_own_at _ rfl _ _ 85 rfl w.heap.size 29 i0 (.slice none 0 0) 1 24 Tryz.underlying85 hi hz0 hz1 hz2 rfl (by decide) _ q _ rfl (HOs.out.alloc _) ⟨_, 0, none⟩ 1 1 [.slice ax6 _ cx6] rfl rfl (new_cell _ _ _ _ (by simp)) (by intro u hu; simp at hu; subst hu; rfl) ?c2 ?c3 ?c4 ?_)
          case c2 => unfold maxLen; omega
          case c3 => omega
          case c4 => have := hb6.size; simp at this ⊢; omega
          intro v' w7 hown' hgrow hnil hloc
          have hbl7 : Below w.heap.size w w7 := ((hbl.trans (hb6.mono hwl)).alloc (by have := hb6.size; omega) _).grown hgrow (by have := hb6.size; simp at this ⊢; omega) (fun j hj => (HOs.out.lt j hj).1)
          have HS7 : Hid (StkR w7 w.heap.size 29 63 v' (((([Y] ++ u) ++ v) :: l0).reverse)) := Lib.hid (by
            rw [List.reverse_cons]
            exact HSK.out.push hb6 HX6.out hwl (by rw [show (List.length _) = q from HQ.out]; first | exact hown' | exact own_len hown' (by first | (simp; done) | (simp; omega))) ((World.grownBy_alloc _ _ _).trans hgrow) (hloc.imp id fun e => ⟨_, e, by simp⟩))
          obtain ⟨a7, c7, rfl⟩ := owned_slice hown'
          have HSl7 : Hid (∃ a c, Value.slice a7 (q + 1) c7 = .slice a (q + 1) c) := Lib.hid ⟨_, _, rfl⟩
          have HM7 : Hid (q + 1 = ((([Y] ++ u) ++ v) :: l0).length) := Lib.hid (by rw [List.length_cons]; have := HQ.out; rw [List.length_reverse] at this; omega)
          clear hown' hgrow hnil hloc
          go_wp2_with fail
          go_roundw
          case rel => exact ⟨i, q + 1, (([Y] ++ u) ++ v) :: l0, by omega, rfl, HL2, HM7, by omega, HSl7, HS7, hbl7⟩
          case measure => simp [intOf] <;> omega
        · have hl2 : 1 ≤ l.length := by rw [rarity_one rfl] at hst2; exact hst2
          obtain ⟨u, l0, rfl⟩ : ∃ u l0, l = u :: l0 := by
            match l, hl2 with
            | u :: l0, _ => exact ⟨u, l0, rfl⟩
          obtain ⟨q, hq⟩ : ∃ q, q = l0.length := ⟨_, rfl⟩
          obtain rfl : m = q + 1 := by have := HM.out; simp only [List.length_cons] at this; omega
          have hll : (u :: l0).reverse.length = q + 1 := by rw [List.length_reverse]; exact HM.out.symm
          obtain ⟨vu, eu, ou, nu⟩ := hSv.2 q (by rw [hll]; omega)
          have lu : lnth (u :: l0).reverse q = u := by simp [lnth, hq]
          rw [lu] at ou
          have hown := hSv.1
          rw [hll] at hown
          obtain ⟨g, rfl, hg, hcap⟩ := owned_pos hown (by omega)
          have t0 := (hown.cellAt (q) (by omega)).trans eu
          obtain ⟨au, cu, rfl⟩ := owned_slice ou
          have HL2 : Hid (([Y] ++ u) :: l0 = (FRg.build (f.drop i)).fold opR) := Lib.hid (by rw [hst1, ← hk]; simp [opR, ← hk, rarity])
          have HQ : Hid (((u :: l0).reverse.take q).length = q) := Lib.hid (by rw [List.length_take, hll]; omega)
          have hT : (u :: l0).reverse.take q = l0.reverse := by simp [hq]
          have HSK : Hid (StkRv wr w.heap.size 29 63 (.slice (some ⟨g, 0, none⟩) q cst) l0.reverse (vs.take q)) := Lib.hid (by
            have := hSv.shrink hll.symm (k := q) (by omega)
            rwa [hT] at this)
          rw [hT] at HQ
          have HU := Lib.hid (own_rg ou)
          have hbX : Below wr.heap.size wr (wr.alloc (.cells #[.int .i64 3, .string Y.lab, .bool Y.neg] 63)) := (Below.refl _ _).alloc (Nat.le_refl _) _
          have HX : Hid ((wr.alloc (.cells #[.int .i64 3, .string Y.lab, .bool Y.neg] 63)).ownsRow wr.heap.size 63 3 (.slice (some ⟨wr.heap.size, 0, none⟩) 1 1) [Y].length (rgCells [Y])) := Lib.hid (rg_made hk)
          have s0 := (hbX.cell (by exact Nat.lt_of_lt_of_le hb hwl)).trans q0
          have hul : u.length ≤ 1048576 := by simp only [List.flatten_cons, List.length_append] at hfll; omega
          have e0 := (hbX.cell (by exact (hown.lt g rfl).2)).trans t0
          have hi1 : ((q + 1 : Nat) : Int) - 1 = (q : Int) := by omega
          have Hgl := Lib.hid (hown.lt g rfl).2
          clear hst1 hst2 hk hl2 hown hll eu ou nu lu HL HM hSv hT hfll hq
          go_wp2_with (at_builtin; refine wpList_append_rg rfl _ _ rfl wr.heap.size _ _ ([Y]).length ([Y]) (u) rfl rfl rfl HX.out (HU.out.rd.below hbX) (by simp only [List.length_append, List.length_cons, List.length_nil]; omega) (by have := hbX.size; omega) wr.heap.size wr hbX (Nat.le_refl _) ?_)
          intro x5 w5 hx5 hb5
          have HX5 : Hid (w5.ownsRow wr.heap.size 63 3 x5 ([Y] ++ u).length (rgCells ([Y] ++ u))) := Lib.hid (by rw [List.length_append]; exact hx5.out)
          obtain ⟨ax5, cx5, rfl⟩ := owned_slice HX5.out
          clear hx5
          have HOs : Hid (w5.ownsRow w.heap.size 29 1 (.slice (some ⟨g, 0, none⟩) q cst) q (vs.take q)) := Lib.hid (by
            have := ownsRow_below HSK.out.1 hb5
            rwa [HQ.out] at this)
          go_wp2_with (at_builtin; refine wpList_append_own_at _ rfl _ _ 85 rfl w.heap.size 29 i0 (.slice none 0 0) 1 24 Tryz.underlying85 hi hz0 hz1 hz2 rfl (by decide) _ q _ rfl (HOs.out.alloc _) ⟨_, 0, none⟩ 1 1 [.slice ax5 _ cx5] rfl rfl (new_cell _ _ _ _ (by simp)) (by intro u hu; simp at hu; subst hu; rfl) ?c2 ?c3 ?c4 ?_)
          case c2 => unfold maxLen; omega
          case c3 => omega
          case c4 => have := hb5.size; simp at this ⊢; omega
          intro v' w7 hown' hgrow hnil hloc
          have hbl7 : Below w.heap.size w w7 := ((hbl.trans (hb5.mono hwl)).alloc (by have := hb5.size; omega) _).grown hgrow (by have := hb5.size; simp at this ⊢; omega) (fun j hj => (HOs.out.lt j hj).1)
          have HS7 : Hid (StkR w7 w.heap.size 29 63 v' ((([Y] ++ u) :: l0).reverse)) := Lib.hid (by
            rw [List.reverse_cons]
            exact HSK.out.push hb5 HX5.out hwl (by rw [show (List.length _) = q from HQ.out]; first | exact hown' | exact own_len hown' (by first | (simp; done) | (simp; omega))) ((World.grownBy_alloc _ _ _).trans hgrow) (hloc.imp id fun e => ⟨_, e, by simp⟩))
          obtain ⟨a7, c7, rfl⟩ := owned_slice hown'
          have HSl7 : Hid (∃ a c, Value.slice a7 (q + 1) c7 = .slice a (q + 1) c) := Lib.hid ⟨_, _, rfl⟩
          have HM7 : Hid (q + 1 = (([Y] ++ u) :: l0).length) := Lib.hid (by rw [List.length_cons]; have := HQ.out; rw [List.length_reverse] at this; omega)
          clear hown' hgrow hnil hloc
          go_wp2_with fail
          go_roundw
          case rel => exact ⟨i, q + 1, ([Y] ++ u) :: l0, by omega, rfl, HL2, HM7, by omega, HSl7, HS7, hbl7⟩
          case measure => simp [intOf] <;> omega
      · obtain rfl : j = 0 := by omega
        obtain ⟨hs1, hs2⟩ := validR_shape HVM.out
        obtain ⟨x, kids, hB, hok, hf⟩ := FRg.one hs1 hs2
        have hl := HL.out
        rw [List.drop_zero, hB] at hl
        obtain ⟨y, hy⟩ : ∃ y, y = opR x (kids.fold opR) := ⟨_, rfl⟩
        obtain rfl : l = [y] := by rw [hl, hy]; rfl
        have hR2 : Hid (revL f = y) := Lib.hid (by rw [hM.out, hB, hy]; rfl)
        obtain rfl : m = 1 := HM.out
        obtain ⟨vs, hSv⟩ := HS.out
        obtain ⟨vu, eu, ou, nu⟩ := hSv.2 0 (by simp)
        have lu : lnth [y].reverse 0 = y := rfl
        rw [lu] at ou
        have hown := hSv.1
        obtain ⟨g, rfl, hg, hcap⟩ := owned_pos (n := 1) hown (by omega)
        have t0 := (World.ownsRow.cellAt hown 0 (by simp)).trans eu
        obtain ⟨au, cu, rfl⟩ := owned_slice ou
        have HU := Lib.hid (own_rg ou)
        clear hl hy hB hok hf hs1 hs2 HL HM HS HSl ou eu nu lu hown hSv
        go_wp2_with fail
        go_ret2
        rw [hR2.out]
        exact ⟨_, rfl, HU.out, hbl⟩
end Go.Proofs.YtcakmchefbohoaaGreatDoor
