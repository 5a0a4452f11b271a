/- FnExactAlternationDepth: the program and the reference give one depth, for every formula. The tables and errors are tied to the text of the program. -/
import Derived.Test.YtmaadfoiaegdjaaGreatDoorRows
import Derived.Test.YtmaadfoiaegdjaaGreatDoorCards
import Derived.Test.YtmaadfoiaegdjaaGreatDoorTie
import Derived.LaidMore
import Derived.MakeChecks
import Derived.Deep.DeepHandedRow
import Derived.Lib.LaidTab
import Derived.WalkSmall
import Derived.ChangeVars
import Derived.SevenTiedAt
import Derived.Stop.LaidErr
import Derived.Test.YtmaadfoiaegdjaaGreatDoorOpenI
import Derived.Test.YtmaadfoiaegdjaaGreatDoorHelpI
import Derived.Test.YtmaadfoiaegdjaaGreatDoorEnv
import Derived.Test.YtmaadfoiaegdjaaGreatDoorRLab
import Derived.Test.YtmaadfoiaegdjaaGreatDoorNode
import Derived.Test.YtmaadfoiaegdjaaGreatDoorNodeW
import Derived.Test.YtmaadfoiaegdjaaGreatDoorVMod
import Derived.Test.YtmaadfoiaegdjaaGreatDoorEnd
import Derived.Test.YtmaadfoiaegdjaaGreatDoorBind
import Derived.Test.YtmaadfoiaegdjaaGreatDoorVFor
import Derived.Test.YtmaadfoiaegdjaaGreatDoorConc
import Derived.Test.YtmaadfoiaegdjaaGreatDoorNds
import Derived.Test.YtmaadfoiaegdjaaGreatDoorFreq
import Derived.Test.YtmaadfoiaegdjaaGreatDoorInst
import Derived.Test.YtmaadfoiaegdjaaGreatDoorUnf
import Derived.Test.YtmaadfoiaegdjaaGreatDoorUses
import Derived.Test.YtmaadfoiaegdjaaGreatDoorAlt
import Derived.Test.YtmaadfoiaegdjaaGreatDoorAltD
import Derived.Test.YtmaadfoiaegdjaaGreatDoorHanded
import Derived.WalkKit
import Derived.ProofKit
import Derived.OpenShut
import Derived.ShutString
import Derived.ChangeOld
import Derived.Below
set_option linter.unusedVariables false
set_option linter.unusedSimpArgs false
namespace Go.Proofs.YtmaadfoiaegdjaaGreatDoor.fnExactAlternationDepth
open Go.ChangeShapes Go.WideShapes Go.ChangeAt Go.RowKit
open Go.ChangeMaps (open_string shut_string)

theorem tabs {W : World} (h : laidMet Tryz.prog Rows.fnExactAlternationDepthRow.laid W) (hS : W.ShapedOpen Tryz.prog) : Env W := ⟨⟨pow_tab (laidMet_tail (laidMet_tail h)), err_syn (laidMet_tail (laidMet_tail (laidMet_tail (laidMet_tail (laidMet_tail h))))), err_ran (laidMet_tail (laidMet_tail (laidMet_tail (laidMet_tail h))))⟩, max_shaped hS⟩
set_option maxHeartbeats 2000000 in
theorem walk (v0 : Value) (f : List Nd) (w : World) (hf : RdNd w v0 f ∧ NdsOk f) (hL : laidMet Tryz.prog Rows.fnExactAlternationDepthRow.laid w) (hS : w.ShapedOpen Tryz.prog) : Calls Tryz.prog 12 #[v0] w fun e w' => e = .returned (.bool true) ∧ Below w.heap.size w w' := by
  have f64 := Lib.hid hf.2
  have rf := hf.1
  clear hf
  go_enter Tryz.func12, Tryz.ntmps12
  by_cases hlf : totNd f ≤ 1048576
  case neg =>
    go_wp2_with fail
    refine (szNodeS_any _ f 1048576 _ (by omega) (by omega) f64.out rf).mono ?_
    rw [show szNd f 1048576 = -1 by unfold szNd; rw [if_neg (by omega)]]
    rintro e w1 ⟨rfl, hb1⟩
    go_wp2_with fail
    go_ret
    exact ⟨rfl, hb1⟩
  go_wp2_with fail
  refine (szNodeS_any _ f 1048576 _ (by omega) (by omega) f64.out rf).mono ?_
  rw [show szNd f 1048576 = 1048576 - (totNd f : Nat) by unfold szNd; rw [if_pos (by omega)]]
  rintro e w1 ⟨rfl, hb1⟩
  have B1 : Below w.heap.size w w1 := hb1
  have z1 := hb1.size
  have hnf : ¬ ((1048576 : Int) - (totNd f : Nat) < 0) := by omega
  have hlenf : f.length ≤ 1048576 := by have h := hlf; unfold totNd at h; omega
  have hlabf := Lib.hid (fun i hi => Nat.le_trans (lab_leNd f i hi) hlf)
  have hT := Lib.hid (tabs hL hS)
  clear hL hS
  go_wp2_with fail
  refine (toNodeS_any _ f _ (by omega) (rf.below B1)).mono ?_
  rintro e w2 ⟨c1, rfl, f_c1, hb2⟩
  have B2 : Below w.heap.size w w2 := B1.trans (hb2.mono (by omega))
  have z2 := hb2.size
  replace f_c1 := f_c1.inn
  go_wp2_with fail
  refine (spec_AlternationDepth_any _ f _ hlenf hlabf.out f_c1.rd).mono ?_
  rintro e w3 ⟨rfl, hb3⟩
  have B3 : Below w.heap.size w w3 := B2.trans (hb3.mono (by omega))
  have z3 := hb3.size
  replace f_c1 := f_c1.below hb3 (by omega)
  go_wp2_with fail
  refine (toNodeS_any _ f _ (by omega) (rf.below B3)).mono ?_
  rintro e w4 ⟨c2, rfl, f_c2, hb4⟩
  have B4 : Below w.heap.size w w4 := B3.trans (hb4.mono (by omega))
  have z4 := hb4.size
  replace f_c1 := f_c1.below hb4 (by omega)
  replace f_c2 := f_c2.inn
  go_wp2_with fail
  refine (AlternationDepth_any _ f _ hlenf hlabf.out (hT.out.below B4) f_c2.rd).mono ?_
  rintro e w5 ⟨rfl, hb5⟩
  have B5 : Below w.heap.size w w5 := B4.trans (hb5.mono (by omega))
  have z5 := hb5.size
  replace f_c1 := f_c1.below hb5 (by omega)
  replace f_c2 := f_c2.below hb5 (by omega)
  go_wp2_with fail
  refine (toNodeS_any _ f _ (by omega) (rf.below B5)).mono ?_
  rintro e w6 ⟨c3, rfl, f_c3, hb6⟩
  have B6 : Below w.heap.size w w6 := B5.trans (hb6.mono (by omega))
  have z6 := hb6.size
  replace f_c1 := f_c1.below hb6 (by omega)
  replace f_c2 := f_c2.below hb6 (by omega)
  replace f_c3 := f_c3.inn
  go_wp2_with fail
  refine (eqNodeS_any _ _ (f) (f) _ (by omega) f_c2.rd f_c3.rd).mono ?_
  rintro e w7 ⟨rfl, hb7⟩
  have B7 : Below w.heap.size w w7 := B6.trans (hb7.mono (by omega))
  have z7 := hb7.size
  replace f_c1 := f_c1.below hb7 (by omega)
  replace f_c2 := f_c2.below hb7 (by omega)
  replace f_c3 := f_c3.below hb7 (by omega)
  go_wp2_with fail
  go_ret
  exact ⟨rfl, B7⟩
theorem own : ownKnob Tryz.prog.godebug = none := by kernel_rfl
theorem laidOut : laidOutB Tryz.prog = true := by kernel_rfl
set_option maxRecDepth 100000 in
theorem lifted (os : Os) (started : os.Started) (H : Type) (enc : TypeId × Value → H) :
    ReturnsInHanded {} Tryz.checked os 12 .any (fun w args => (Rows.fnExactAlternationDepthSpec.pre enc Tryz.prog Tryz.f12 [] false w args ∧ laidMetH Tryz.prog Rows.fnExactAlternationDepthRow.laid w) ∧ sizedMet enc Tryz.prog Tryz.f12 (OpenSpec.ofChange Rows.fnExactAlternationDepthSpec) false w args)
      (Rows.fnExactAlternationDepthSpec.post enc Tryz.prog Tryz.f12 false true false false) := by
  refine handed_shaped (C := Tryz.checked) (X := fun w _ => laidMetH Tryz.prog Rows.fnExactAlternationDepthRow.laid w) own started (by kernel_rfl) Tryz.func12 (fun _ _ _ hh h => h.of_heap hh)
    (ChangeSpec.witness_shaped (enc := enc) (C := Tryz.checked) (os := os) (X := fun w _ => laidMetH Tryz.prog Rows.fnExactAlternationDepthRow.laid w) false (World.laidAll Tryz.prog os Rows.fnExactAlternationDepthRow.laid) #[.slice none 0 0] 8 (World.laidAll_os _ _ _) (World.shaped_of_ZipB (by kernel_rfl) (by kernel_rfl)) (by kernel_rfl) (by kernel_rfl) (by kernel_rfl) (by rw [MakeChecks.laidMetH_plain _ _ _ (by kernel_rfl)]; exact laidMet_laidAll _ (by kernel_rfl) (by kernel_rfl))) ?_
  intro W base args ds gs before hval0 hW hL hS
  rw [MakeChecks.laidMetH_plain _ _ _ (by kernel_rfl)] at hL
  have hval : ∀ (j : Nat) t v, Tryz.f12.params[j]? = some t → args[j]? = some v → Value.okWide Tryz.prog W .any base t v := hval0
  have hW' := hW
  obtain ⟨p, q, hA0, hV, rfl, hfz, hnd⟩ := hW
  have hA : DataW.TrodAll enc Tryz.prog W 0 (fun _ => true) true Tryz.f12.params.toList args.toList ds p := hA0
  rw [Tryz.params12] at hA hval
  obtain ⟨v0, vs0, d0, ds0, p0, q0, hargs, rfl, rfl, h0, r0⟩ := trodAll_cons hA
  obtain ⟨rfl, rfl, rfl⟩ := trodAll_nil r0
  obtain rfl : args = #[v0] := by cases args; simp_all
  obtain ⟨rfl, rfl⟩ := trodVars_none hV
  have k0 := h0
  have lt0 : ∀ x ∈ p0, x.block < W.heap.size := by obtain ⟨m, hm⟩ := k0; exact DataW.trod_lt m _ _ _ hm
  obtain ⟨z0, w0⟩ := openNode (hval 0 30 v0 rfl rfl) h0 lt0
  clear hA0 hval0
  refine (walk v0 z0 W w0 hL hS).mono fun e W' ⟨he, bel⟩ => ?_
  subst he
  exact ⟨_, rfl, _, _, _, [], _, [], hW', trodAll_mk1 (shut_bool Tryz.underlying4 _), (trodAll_cons_mk (Below.trod laidOut (by kernel_rfl) (of_decide_eq_true (by kernel_rfl)) k0 bel lt0) trodAll_mk0), rfl, bel.frame _, fun h => by cases h⟩
theorem g0 : Rows.fnExactAlternationDepthRow.wf (OpenSpec.ofChange Rows.fnExactAlternationDepthSpec) = true := by kernel_rfl
theorem g1 : laidOutB Tryz.prog = true := by kernel_rfl
theorem g2 : mapsRowed Tryz.prog = true := by kernel_rfl
theorem g10 : (Rows.fnExactAlternationDepthRow.inPlace == Tryz.prog.inPlace 12) = true := by kernel_rfl
theorem g11 : (Rows.fnExactAlternationDepthRow.unfollowed == Tryz.prog.unfollowed 12) = true := by kernel_rfl
theorem g12 : (Rows.fnExactAlternationDepthRow.recurses == Tryz.prog.recurses 12) = true := by kernel_rfl
theorem g13 : (Rows.fnExactAlternationDepthRow.named == Tryz.prog.varsNamed 12) = true := by kernel_rfl
theorem facts : joinedFacts Tryz.pinned.checked.prog 12 Tryz.f12 Rows.fnExactAlternationDepthSpec Rows.fnExactAlternationDepthRow = true := by
  show joinedFacts Tryz.prog 12 Tryz.f12 Rows.fnExactAlternationDepthSpec Rows.fnExactAlternationDepthRow = true
  unfold joinedFacts
  rw [g0, g1, g2, g10, g11, g12, g13]
  kernel_rfl
theorem said : Rows.fnExactAlternationDepthRow.holds Tryz.pinned (OpenSpec.ofChange Rows.fnExactAlternationDepthSpec) :=
  OpenClaim.holds_of_wide 12 Tryz.f12 rfl rfl rfl rfl rfl rfl rfl ⟨rfl, rfl, rfl, rfl, rfl⟩ rfl rfl rfl rfl rfl (by kernel_rfl) Tryz.func12 facts
    (of_decide_eq_true (by kernel_rfl)) (by unfold Func.isWrapper; first | (rw [if_pos (by decide +kernel)]; kernel_rfl) | (rw [if_neg (by decide +kernel)]; exact ⟨rfl, rfl⟩))
    (fun os started H enc _ => lifted os started H enc)
theorem plain (f : FuncId) (fn : Func) (hf : Tryz.pinned.checked.prog.funcNamed Rows.fnExactAlternationDepthRow.func = some f) (hfn : Tryz.pinned.checked.prog.funcs[f]? = some fn) :
    true = Tryz.pinned.checked.prog.looks [] ∧ ∀ (j : Nat) t, fn.params[j]? = some t → Tryz.pinned.checked.prog.wantsStandIn t = false := by
  obtain rfl : f = 12 := Option.some.inj ((show Tryz.prog.funcNamed Rows.fnExactAlternationDepthRow.func = some 12 by kernel_rfl).symm.trans hf) |>.symm
  obtain rfl : fn = Tryz.f12 := (Option.some.inj (Tryz.func12.symm.trans hfn)).symm
  refine ⟨by kernel_rfl, fun j t ht => ?_⟩
  rw [Tryz.params12] at ht
  have hm : t ∈ [30] := by simpa using Array.mem_of_getElem? ht
  have hall : ([30].all fun u => !Tryz.prog.wantsStandIn u) = true := by kernel_rfl
  exact (show Tryz.prog.wantsStandIn t = false by simpa using List.all_eq_true.1 hall t hm)
theorem card : Rows.FnExactAlternationDepthCardSaid :=
  Claim7.holds_tied_plain_at .later [] _ _ _ _ said (fun _ h => by cases h) (by kernel_rfl) (fun _ h => by cases h) fnExactAlternationDepth_row_tie rfl ⟨rfl, rfl⟩ (by kernel_rfl) rfl plain (by kernel_rfl)
end Go.Proofs.YtmaadfoiaegdjaaGreatDoor.fnExactAlternationDepth
