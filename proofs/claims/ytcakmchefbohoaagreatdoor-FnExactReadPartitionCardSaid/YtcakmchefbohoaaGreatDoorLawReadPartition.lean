/- FnExactReadPartition: the program and the reference read one partition, for every text. The tables and errors are tied to the text of the program. -/
import Derived.Test.YtcakmchefbohoaaGreatDoorRows
import Derived.Test.YtcakmchefbohoaaGreatDoorCards
import Derived.Test.YtcakmchefbohoaaGreatDoorTie
import Derived.LaidMore
import Derived.MakeChecks
import Derived.Deep.DeepHandedRow
import Derived.Lib.LaidTab
import Derived.WalkSmall
import Derived.ChangeVars
import Derived.SevenTiedAt
import Derived.Stop.LaidErr
import Derived.Test.YtcakmchefbohoaaGreatDoorOpenI
import Derived.Test.YtcakmchefbohoaaGreatDoorHelpI
import Derived.Test.YtcakmchefbohoaaGreatDoorEnv
import Derived.Test.YtcakmchefbohoaaGreatDoorRPt
import Derived.Test.YtcakmchefbohoaaGreatDoorRPi
import Derived.Test.YtcakmchefbohoaaGreatDoorRPs
import Derived.Test.YtcakmchefbohoaaGreatDoorHanded
import Derived.WalkKit
import Derived.ProofKit
import Derived.OpenShut
import Derived.ShutString
import Derived.ChangeOld
import Derived.Below
set_option linter.unusedVariables false
set_option linter.unusedSimpArgs false
namespace Go.Proofs.YtcakmchefbohoaaGreatDoor.fnExactReadPartition
open Go.ChangeShapes Go.WideShapes Go.ChangeAt Go.RowKit
open Go.ChangeMaps (open_string shut_string)

theorem tabs {W : World} (h : laidMet Tryz.prog Rows.fnExactReadPartitionRow.laid W) (hS : W.ShapedOpen Tryz.prog) : Env W := ⟨⟨pow_tab (laidMet_tail (laidMet_tail h)), err_syn (laidMet_tail (laidMet_tail (laidMet_tail (laidMet_tail (laidMet_tail h))))), err_ran (laidMet_tail (laidMet_tail (laidMet_tail (laidMet_tail h))))⟩, max_shaped hS⟩
set_option maxHeartbeats 2000000 in
theorem walk (s : ByteArray) (w : World) (hs : s.size ≤ maxLen) (hL : laidMet Tryz.prog Rows.fnExactReadPartitionRow.laid w) (hS : w.ShapedOpen Tryz.prog) : Calls Tryz.prog 7 #[.string s] w fun e w' => e = .returned (.bool true) ∧ Below w.heap.size w w' := by
  unfold maxLen at hs
  by_cases hls : s.size ≤ 1048576
  case neg =>
    have hd : (1048576 : Int) < s.size := by omega
    go_enter Tryz.func7, Tryz.ntmps7
    go_wp2
    go_ret
    exact ⟨rfl, Below.refl _ _⟩
  have hds : ¬ (1048576 : Int) < s.size := by omega
  have hT := Lib.hid (tabs hL hS)
  clear hL hS
  have hfl := rpOut_len s
  go_enter Tryz.func7, Tryz.ntmps7
  go_wp2_with fail
  refine (spec_ReadPartition_any s _ hls).mono ?_
  rintro e w1 ⟨s0, rfl, f_s0, hb1⟩
  have B1 : Below w.heap.size w w1 := (Below.refl _ _).trans (hb1.mono (by omega))
  have z1 := hb1.size
  replace f_s0 := f_s0.inn
  go_wp2_with fail
  refine (ReadPartition_any s _ hls (hT.out.below B1)).mono ?_
  rintro e w2 ⟨g0, rfl, f_g0, hb2⟩
  have B2 : Below w.heap.size w w2 := B1.trans (hb2.mono (by omega))
  have z2 := hb2.size
  replace f_s0 := f_s0.below hb2 (by omega)
  replace f_g0 := f_g0.inn
  go_wp2_with fail
  refine (eqInt64S_any _ _ (rpOut s) (rpOut s) _ (by omega) f_g0.rd f_s0.rd).mono ?_
  rintro e w3 ⟨rfl, hb3⟩
  have B3 : Below w.heap.size w w3 := B2.trans (hb3.mono (by omega))
  have z3 := hb3.size
  replace f_s0 := f_s0.below hb3 (by omega)
  replace f_g0 := f_g0.below hb3 (by omega)
  go_wp2_with fail
  refine (markInt64S_any _ _ _ (rpOut s) (1) _ (by omega) (by omega) (by omega) f_g0).mono ?_
  rintro e w4 ⟨rfl, f_g0, hb4⟩
  have B4 : Below w.heap.size w w4 := B3.trans ((hb4.below (Nat.le_refl _) (by omega)).mono (by omega))
  have z4 := hb4.size
  replace f_s0 := f_s0.mod hb4 (by omega)
  have k2 : ¬ (1 + ((rpOut s).length : Int) < 0) := by omega
  go_wp2_with fail
  refine (heldInt64S_any _ (1) (rpOut s).length _ (by omega) (by omega) (by omega) f_g0.rd).mono ?_
  rintro e w' ⟨rfl, rfl⟩
  go_wp2_with fail
  refine (ReadPartition_any s _ hls (hT.out.below B4)).mono ?_
  rintro e w5 ⟨h0, rfl, f_h0, hb5⟩
  have B5 : Below w.heap.size w w5 := B4.trans (hb5.mono (by omega))
  have z5 := hb5.size
  replace f_s0 := f_s0.below hb5 (by omega)
  replace f_g0 := f_g0.below hb5 (by omega)
  replace f_h0 := f_h0.inn
  go_wp2_with fail
  refine (eqInt64S_any _ _ (rpOut s) (rpOut s) _ (by omega) f_h0.rd f_s0.rd).mono ?_
  rintro e w6 ⟨rfl, hb6⟩
  have B6 : Below w.heap.size w w6 := B5.trans (hb6.mono (by omega))
  have z6 := hb6.size
  replace f_s0 := f_s0.below hb6 (by omega)
  replace f_g0 := f_g0.below hb6 (by omega)
  replace f_h0 := f_h0.below hb6 (by omega)
  go_wp2_with fail
  refine (heldInt64S_any _ (1) (rpOut s).length _ (by omega) (by omega) (by omega) f_g0.rd).mono ?_
  rintro e w' ⟨rfl, rfl⟩
  go_wp2_with fail
  go_ret
  exact ⟨rfl, B6⟩
theorem own : ownKnob Tryz.prog.godebug = none := by kernel_rfl
theorem laidOut : laidOutB Tryz.prog = true := by kernel_rfl
set_option maxRecDepth 100000 in
theorem lifted (os : Os) (started : os.Started) (H : Type) (enc : TypeId × Value → H) :
    ReturnsInHanded {} Tryz.checked os 7 .any (fun w args => (Rows.fnExactReadPartitionSpec.pre enc Tryz.prog Tryz.f7 [] false w args ∧ laidMetH Tryz.prog Rows.fnExactReadPartitionRow.laid w) ∧ sizedMet enc Tryz.prog Tryz.f7 (OpenSpec.ofChange Rows.fnExactReadPartitionSpec) false w args)
      (Rows.fnExactReadPartitionSpec.post enc Tryz.prog Tryz.f7 false true false false) := by
  refine handed_shaped (C := Tryz.checked) (X := fun w _ => laidMetH Tryz.prog Rows.fnExactReadPartitionRow.laid w) own started (by kernel_rfl) Tryz.func7 (fun _ _ _ hh h => h.of_heap hh)
    (ChangeSpec.witness_shaped (enc := enc) (C := Tryz.checked) (os := os) (X := fun w _ => laidMetH Tryz.prog Rows.fnExactReadPartitionRow.laid w) false (World.laidAll Tryz.prog os Rows.fnExactReadPartitionRow.laid) #[.string ByteArray.empty] 8 (World.laidAll_os _ _ _) (World.shaped_of_ZipB (by kernel_rfl) (by kernel_rfl)) (by kernel_rfl) (by kernel_rfl) (by kernel_rfl) (by rw [MakeChecks.laidMetH_plain _ _ _ (by kernel_rfl)]; exact laidMet_laidAll _ (by kernel_rfl) (by kernel_rfl))) ?_
  intro W base args ds gs before hval0 hW hL hS
  rw [MakeChecks.laidMetH_plain _ _ _ (by kernel_rfl)] at hL
  have hval : ∀ (j : Nat) t v, Tryz.f7.params[j]? = some t → args[j]? = some v → Value.okWide Tryz.prog W .any base t v := hval0
  have hW' := hW
  obtain ⟨p, q, hA0, hV, rfl, hfz, hnd⟩ := hW
  have hA : DataW.TrodAll enc Tryz.prog W 0 (fun _ => true) true Tryz.f7.params.toList args.toList ds p := hA0
  rw [Tryz.params7] at hA hval
  obtain ⟨v0, vs0, d0, ds0, p0, q0, hargs, rfl, rfl, h0, r0⟩ := trodAll_cons hA
  obtain ⟨rfl, rfl, rfl⟩ := trodAll_nil r0
  obtain rfl : args = #[v0] := by cases args; simp_all
  obtain ⟨rfl, rfl⟩ := trodVars_none hV
  obtain ⟨a0, rfl, rfl, rfl, w0⟩ := open_string Tryz.underlying9 (hval 0 9 v0 rfl rfl) h0
  clear hA0 hval0
  refine (walk a0 W w0 hL hS).mono fun e W' ⟨he, bel⟩ => ?_
  subst he
  exact ⟨_, rfl, _, _, _, [], _, [], hW', trodAll_mk1 (shut_bool Tryz.underlying4 _), (trodAll_cons_mk (shut_string Tryz.underlying9 w0) trodAll_mk0), rfl, bel.frame _, fun h => by cases h⟩
theorem g0 : Rows.fnExactReadPartitionRow.wf (OpenSpec.ofChange Rows.fnExactReadPartitionSpec) = true := by kernel_rfl
theorem g1 : laidOutB Tryz.prog = true := by kernel_rfl
theorem g2 : mapsRowed Tryz.prog = true := by kernel_rfl
theorem g10 : (Rows.fnExactReadPartitionRow.inPlace == Tryz.prog.inPlace 7) = true := by kernel_rfl
theorem g11 : (Rows.fnExactReadPartitionRow.unfollowed == Tryz.prog.unfollowed 7) = true := by kernel_rfl
theorem g12 : (Rows.fnExactReadPartitionRow.recurses == Tryz.prog.recurses 7) = true := by kernel_rfl
theorem g13 : (Rows.fnExactReadPartitionRow.named == Tryz.prog.varsNamed 7) = true := by kernel_rfl
theorem facts : joinedFacts Tryz.pinned.checked.prog 7 Tryz.f7 Rows.fnExactReadPartitionSpec Rows.fnExactReadPartitionRow = true := by
  show joinedFacts Tryz.prog 7 Tryz.f7 Rows.fnExactReadPartitionSpec Rows.fnExactReadPartitionRow = true
  unfold joinedFacts
  rw [g0, g1, g2, g10, g11, g12, g13]
  kernel_rfl
theorem said : Rows.fnExactReadPartitionRow.holds Tryz.pinned (OpenSpec.ofChange Rows.fnExactReadPartitionSpec) :=
  OpenClaim.holds_of_wide 7 Tryz.f7 rfl rfl rfl rfl rfl rfl rfl ⟨rfl, rfl, rfl, rfl, rfl⟩ rfl rfl rfl rfl rfl (by kernel_rfl) Tryz.func7 facts
    (of_decide_eq_true (by kernel_rfl)) (by unfold Func.isWrapper; first | (rw [if_pos (by decide +kernel)]; kernel_rfl) | (rw [if_neg (by decide +kernel)]; exact ⟨rfl, rfl⟩))
    (fun os started H enc _ => lifted os started H enc)
theorem plain (f : FuncId) (fn : Func) (hf : Tryz.pinned.checked.prog.funcNamed Rows.fnExactReadPartitionRow.func = some f) (hfn : Tryz.pinned.checked.prog.funcs[f]? = some fn) :
    true = Tryz.pinned.checked.prog.looks [] ∧ ∀ (j : Nat) t, fn.params[j]? = some t → Tryz.pinned.checked.prog.wantsStandIn t = false := by
  obtain rfl : f = 7 := Option.some.inj ((show Tryz.prog.funcNamed Rows.fnExactReadPartitionRow.func = some 7 by kernel_rfl).symm.trans hf) |>.symm
  obtain rfl : fn = Tryz.f7 := (Option.some.inj (Tryz.func7.symm.trans hfn)).symm
  refine ⟨by kernel_rfl, fun j t ht => ?_⟩
  rw [Tryz.params7] at ht
  have hm : t ∈ [9] := by simpa using Array.mem_of_getElem? ht
  have hall : ([9].all fun u => !Tryz.prog.wantsStandIn u) = true := by kernel_rfl
  exact (show Tryz.prog.wantsStandIn t = false by simpa using List.all_eq_true.1 hall t hm)
theorem card : Rows.FnExactReadPartitionCardSaid :=
  Claim7.holds_tied_plain_at .later [] _ _ _ _ said (fun _ h => by cases h) (by kernel_rfl) (fun _ h => by cases h) fnExactReadPartition_row_tie rfl ⟨rfl, rfl⟩ (by kernel_rfl) rfl plain (by kernel_rfl)
end Go.Proofs.YtcakmchefbohoaaGreatDoor.fnExactReadPartition
