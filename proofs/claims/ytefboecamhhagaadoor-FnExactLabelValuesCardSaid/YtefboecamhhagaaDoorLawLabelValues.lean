/- FnExactLabelValues: the program and the reference give the same values, for every text. The tables and errors are tied to the text of the program. -/
import Derived.Test.YtefboecamhhagaaDoorRows
import Derived.Test.YtefboecamhhagaaDoorCards
import Derived.Test.YtefboecamhhagaaDoorTie
import Derived.LaidMore
import Derived.MakeChecks
import Derived.Deep.DeepHandedRow
import Derived.Lib.LaidTab
import Derived.WalkSmall
import Derived.ChangeVars
import Derived.SevenTiedAt
import Derived.Stop.LaidErr
import Derived.Test.YtefboecamhhagaaDoorOpenI
import Derived.Test.YtefboecamhhagaaDoorHelpI
import Derived.Test.YtefboecamhhagaaDoorEnv
import Derived.Test.YtefboecamhhagaaDoorNumbers
import Derived.Test.YtefboecamhhagaaDoorLabel
import Derived.Test.YtefboecamhhagaaDoorRLab
import Derived.Test.YtefboecamhhagaaDoorHanded
import Derived.WalkKit
import Derived.ProofKit
import Derived.OpenShut
import Derived.ShutString
import Derived.ChangeOld
import Derived.Below
set_option linter.unusedVariables false
set_option linter.unusedSimpArgs false
namespace Go.Proofs.YtefboecamhhagaaDoor.fnExactLabelValues
open Go.ChangeShapes Go.WideShapes Go.ChangeAt Go.RowKit
open Go.ChangeMaps (open_string shut_string)

theorem tabs {W : World} (h : laidMet Tryd.prog Rows.fnExactLabelValuesRow.laid W) (hS : W.ShapedOpen Tryd.prog) : Env W := ⟨⟨pow_tab (laidMet_tail (laidMet_tail h)), err_syn (laidMet_tail (laidMet_tail (laidMet_tail (laidMet_tail (laidMet_tail h))))), err_ran (laidMet_tail (laidMet_tail (laidMet_tail (laidMet_tail h))))⟩, max_shaped hS⟩
set_option maxHeartbeats 2000000 in
theorem walk (s : ByteArray) (w : World) (hs : s.size ≤ maxLen) (hL : laidMet Tryd.prog Rows.fnExactLabelValuesRow.laid w) (hS : w.ShapedOpen Tryd.prog) : Calls Tryd.prog 12 #[.string s] w fun e w' => e = .returned (.bool true) ∧ Below w.heap.size w w' := by
  unfold maxLen at hs
  by_cases hls : s.size ≤ 1048576
  case neg =>
    have hd : (1048576 : Int) < s.size := by omega
    go_enter Tryd.func12, Tryd.ntmps12
    go_wp2
    go_ret
    exact ⟨rfl, Below.refl _ _⟩
  have hds : ¬ (1048576 : Int) < s.size := by omega
  have hT := Lib.hid (tabs hL hS)
  clear hL hS
  have hlv := labVs_len s
  go_enter Tryd.func12, Tryd.ntmps12
  go_wp2_with fail
  refine (spec_LabelValues_any s _ hls).mono ?_
  rintro e w1 ⟨s0, rfl, f_s0, hb1⟩
  have B1 : Below w.heap.size w w1 := (Below.refl _ _).trans (hb1.mono (by omega))
  have z1 := hb1.size
  replace f_s0 := f_s0.inn
  go_wp2_with fail
  refine (LabelValues_any s _ hls (hT.out.below B1)).mono ?_
  rintro e w2 ⟨g0, rfl, f_g0, hb2⟩
  have B2 : Below w.heap.size w w2 := B1.trans (hb2.mono (by omega))
  have z2 := hb2.size
  replace f_s0 := f_s0.below hb2 (by omega)
  replace f_g0 := f_g0.inn
  go_wp2_with fail
  refine (eqInt64S_any _ _ (labVs s) (labVs s) _ (by omega) f_g0.rd f_s0.rd).mono ?_
  rintro e w3 ⟨rfl, hb3⟩
  have B3 : Below w.heap.size w w3 := B2.trans (hb3.mono (by omega))
  have z3 := hb3.size
  replace f_s0 := f_s0.below hb3 (by omega)
  replace f_g0 := f_g0.below hb3 (by omega)
  go_wp2_with fail
  refine (markInt64S_any _ _ _ (labVs s) (1) _ (by omega) (by omega) (by omega) f_g0).mono ?_
  rintro e w4 ⟨rfl, f_g0, hb4⟩
  have B4 : Below w.heap.size w w4 := B3.trans ((hb4.below (Nat.le_refl _) (by omega)).mono (by omega))
  have z4 := hb4.size
  replace f_s0 := f_s0.mod hb4 (by omega)
  have k2 : ¬ (1 + ((labVs s).length : Int) < 0) := by omega
  go_wp2_with fail
  refine (heldInt64S_any _ (1) (labVs s).length _ (by omega) (by omega) (by omega) f_g0.rd).mono ?_
  rintro e w' ⟨rfl, rfl⟩
  go_wp2_with fail
  refine (LabelValues_any s _ hls (hT.out.below B4)).mono ?_
  rintro e w5 ⟨h0, rfl, f_h0, hb5⟩
  have B5 : Below w.heap.size w w5 := B4.trans (hb5.mono (by omega))
  have z5 := hb5.size
  replace f_s0 := f_s0.below hb5 (by omega)
  replace f_g0 := f_g0.below hb5 (by omega)
  replace f_h0 := f_h0.inn
  go_wp2_with fail
  refine (eqInt64S_any _ _ (labVs s) (labVs s) _ (by omega) f_h0.rd f_s0.rd).mono ?_
  rintro e w6 ⟨rfl, hb6⟩
  have B6 : Below w.heap.size w w6 := B5.trans (hb6.mono (by omega))
  have z6 := hb6.size
  replace f_s0 := f_s0.below hb6 (by omega)
  replace f_g0 := f_g0.below hb6 (by omega)
  replace f_h0 := f_h0.below hb6 (by omega)
  go_wp2_with fail
  refine (heldInt64S_any _ (1) (labVs s).length _ (by omega) (by omega) (by omega) f_g0.rd).mono ?_
  rintro e w' ⟨rfl, rfl⟩
  go_wp2_with fail
  go_ret
  exact ⟨rfl, B6⟩
theorem own : ownKnob Tryd.prog.godebug = none := by kernel_rfl
theorem laidOut : laidOutB Tryd.prog = true := by kernel_rfl
set_option maxRecDepth 100000 in
theorem lifted (os : Os) (started : os.Started) (H : Type) (enc : TypeId × Value → H) :
    ReturnsInHanded {} Tryd.checked os 12 .any (fun w args => (Rows.fnExactLabelValuesSpec.pre enc Tryd.prog Tryd.f12 [] false w args ∧ laidMetH Tryd.prog Rows.fnExactLabelValuesRow.laid w) ∧ sizedMet enc Tryd.prog Tryd.f12 (OpenSpec.ofChange Rows.fnExactLabelValuesSpec) false w args)
      (Rows.fnExactLabelValuesSpec.post enc Tryd.prog Tryd.f12 false true false false) := by
  refine handed_shaped (C := Tryd.checked) (X := fun w _ => laidMetH Tryd.prog Rows.fnExactLabelValuesRow.laid w) own started (by kernel_rfl) Tryd.func12 (fun _ _ _ hh h => h.of_heap hh)
    (ChangeSpec.witness_shaped (enc := enc) (C := Tryd.checked) (os := os) (X := fun w _ => laidMetH Tryd.prog Rows.fnExactLabelValuesRow.laid w) false (World.laidAll Tryd.prog os Rows.fnExactLabelValuesRow.laid) #[.string ByteArray.empty] 8 (World.laidAll_os _ _ _) (World.shaped_of_ZipB (by kernel_rfl) (by kernel_rfl)) (by kernel_rfl) (by kernel_rfl) (by kernel_rfl) (by rw [MakeChecks.laidMetH_plain _ _ _ (by kernel_rfl)]; exact laidMet_laidAll _ (by kernel_rfl) (by kernel_rfl))) ?_
  intro W base args ds gs before hval0 hW hL hS
  rw [MakeChecks.laidMetH_plain _ _ _ (by kernel_rfl)] at hL
  have hval : ∀ (j : Nat) t v, Tryd.f12.params[j]? = some t → args[j]? = some v → Value.okWide Tryd.prog W .any base t v := hval0
  have hW' := hW
  obtain ⟨p, q, hA0, hV, rfl, hfz, hnd⟩ := hW
  have hA : DataW.TrodAll enc Tryd.prog W 0 (fun _ => true) true Tryd.f12.params.toList args.toList ds p := hA0
  rw [Tryd.params12] at hA hval
  obtain ⟨v0, vs0, d0, ds0, p0, q0, hargs, rfl, rfl, h0, r0⟩ := trodAll_cons hA
  obtain ⟨rfl, rfl, rfl⟩ := trodAll_nil r0
  obtain rfl : args = #[v0] := by cases args; simp_all
  obtain ⟨rfl, rfl⟩ := trodVars_none hV
  obtain ⟨a0, rfl, rfl, rfl, w0⟩ := open_string Tryd.underlying9 (hval 0 9 v0 rfl rfl) h0
  clear hA0 hval0
  refine (walk a0 W w0 hL hS).mono fun e W' ⟨he, bel⟩ => ?_
  subst he
  exact ⟨_, rfl, _, _, _, [], _, [], hW', trodAll_mk1 (shut_bool Tryd.underlying4 _), (trodAll_cons_mk (shut_string Tryd.underlying9 w0) trodAll_mk0), rfl, bel.frame _, fun h => by cases h⟩
theorem said : Rows.fnExactLabelValuesRow.holds Tryd.pinned (OpenSpec.ofChange Rows.fnExactLabelValuesSpec) :=
  OpenClaim.holds_of_wide 12 Tryd.f12 rfl rfl rfl rfl rfl rfl rfl ⟨rfl, rfl, rfl, rfl, rfl⟩ rfl rfl rfl rfl rfl (by kernel_rfl) Tryd.func12 (by kernel_rfl)
    (of_decide_eq_true (by kernel_rfl)) (by unfold Func.isWrapper; first | (rw [if_pos (by decide +kernel)]; kernel_rfl) | (rw [if_neg (by decide +kernel)]; exact ⟨rfl, rfl⟩))
    (fun os started H enc _ => lifted os started H enc)
theorem plain (f : FuncId) (fn : Func) (hf : Tryd.pinned.checked.prog.funcNamed Rows.fnExactLabelValuesRow.func = some f) (hfn : Tryd.pinned.checked.prog.funcs[f]? = some fn) :
    true = Tryd.pinned.checked.prog.looks [] ∧ ∀ (j : Nat) t, fn.params[j]? = some t → Tryd.pinned.checked.prog.wantsStandIn t = false := by
  obtain rfl : f = 12 := Option.some.inj ((show Tryd.prog.funcNamed Rows.fnExactLabelValuesRow.func = some 12 by kernel_rfl).symm.trans hf) |>.symm
  obtain rfl : fn = Tryd.f12 := (Option.some.inj (Tryd.func12.symm.trans hfn)).symm
  refine ⟨by kernel_rfl, fun j t ht => ?_⟩
  rw [Tryd.params12] at ht
  have hm : t ∈ [9] := by simpa using Array.mem_of_getElem? ht
  have hall : ([9].all fun u => !Tryd.prog.wantsStandIn u) = true := by kernel_rfl
  exact (show Tryd.prog.wantsStandIn t = false by simpa using List.all_eq_true.1 hall t hm)
theorem card : Rows.FnExactLabelValuesCardSaid :=
  Claim7.holds_tied_plain_at .later [] _ _ _ _ said (fun _ h => by cases h) (by kernel_rfl) (fun _ h => by cases h) fnExactLabelValues_row_tie rfl ⟨rfl, rfl⟩ (by kernel_rfl) rfl plain (by kernel_rfl)
end Go.Proofs.YtefboecamhhagaaDoor.fnExactLabelValues
