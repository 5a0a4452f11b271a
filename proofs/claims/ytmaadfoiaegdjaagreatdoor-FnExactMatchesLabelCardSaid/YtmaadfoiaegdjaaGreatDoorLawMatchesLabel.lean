/- FnExactMatchesLabel: the program and the reference answer alike, for every pattern and label. The tables and errors are tied to the text of the program. -/
import Derived.Test.YtmaadfoiaegdjaaGreatDoorRows
import Derived.Test.YtmaadfoiaegdjaaGreatDoorCards
import Derived.Test.YtmaadfoiaegdjaaGreatDoorTie
import Derived.LaidMore
import Derived.MakeChecks
import Derived.Deep.DeepHandedRow
import Derived.Lib.LaidTab
import Derived.WalkSmall
import Derived.ChangeVars
import Derived.SevenTiedAt
import Derived.Stop.LaidErr
import Derived.Test.YtmaadfoiaegdjaaGreatDoorOpenI
import Derived.Test.YtmaadfoiaegdjaaGreatDoorHelpI
import Derived.Test.YtmaadfoiaegdjaaGreatDoorEnv
import Derived.Test.YtmaadfoiaegdjaaGreatDoorRLab
import Derived.Test.YtmaadfoiaegdjaaGreatDoorSel
import Derived.Test.YtmaadfoiaegdjaaGreatDoorHanded
import Derived.WalkKit
import Derived.ProofKit
import Derived.OpenShut
import Derived.ShutString
import Derived.ChangeOld
import Derived.Below
set_option linter.unusedVariables false
set_option linter.unusedSimpArgs false
namespace Go.Proofs.YtmaadfoiaegdjaaGreatDoor.fnExactMatchesLabel
open Go.ChangeShapes Go.WideShapes Go.ChangeAt Go.RowKit
open Go.ChangeMaps (open_string shut_string)

theorem tabs {W : World} (h : laidMet Tryz.prog Rows.fnExactMatchesLabelRow.laid W) (hS : W.ShapedOpen Tryz.prog) : Env W := ⟨⟨pow_tab (laidMet_tail (laidMet_tail h)), err_syn (laidMet_tail (laidMet_tail (laidMet_tail (laidMet_tail (laidMet_tail h))))), err_ran (laidMet_tail (laidMet_tail (laidMet_tail (laidMet_tail h))))⟩, max_shaped hS⟩
set_option maxHeartbeats 2000000 in
theorem walk (p : ByteArray) (neg : Bool) (l : ByteArray) (w : World) (hp : p.size ≤ maxLen) (hl : l.size ≤ maxLen) (hL : laidMet Tryz.prog Rows.fnExactMatchesLabelRow.laid w) (hS : w.ShapedOpen Tryz.prog) : Calls Tryz.prog 3 #[.string p, .bool neg, .string l] w fun e w' => e = .returned (.bool true) ∧ Below w.heap.size w w' := by
  unfold maxLen at hp
  unfold maxLen at hl
  by_cases hlp : p.size ≤ 1048576
  case neg =>
    have hd : (1048576 : Int) < p.size := by omega
    go_enter Tryz.func3, Tryz.ntmps3
    go_wp2
    go_ret
    exact ⟨rfl, Below.refl _ _⟩
  have hdp : ¬ (1048576 : Int) < p.size := by omega
  by_cases hll : l.size ≤ 1048576
  case neg =>
    have hd : (1048576 : Int) < l.size := by omega
    go_enter Tryz.func3, Tryz.ntmps3
    go_wp2
    go_ret
    exact ⟨rfl, Below.refl _ _⟩
  have hdl : ¬ (1048576 : Int) < l.size := by omega
  have hT := Lib.hid (tabs hL hS)
  clear hL hS
  go_enter Tryz.func3, Tryz.ntmps3
  go_wp2_with fail
  refine (spec_MatchesLabel_any p neg l _ hlp hll).mono ?_
  rintro e w1 ⟨rfl, hb1⟩
  have B1 : Below w.heap.size w w1 := (Below.refl _ _).trans (hb1.mono (by omega))
  have z1 := hb1.size
  go_wp2_with fail
  refine (MatchesLabel_any p neg l _ hlp hll (hT.out.below B1)).mono ?_
  rintro e w2 ⟨rfl, hb2⟩
  have B2 : Below w.heap.size w w2 := B1.trans (hb2.mono (by omega))
  have z2 := hb2.size
  go_wp2_with fail
  go_ret
  exact ⟨rfl, B2⟩
theorem own : ownKnob Tryz.prog.godebug = none := by kernel_rfl
theorem laidOut : laidOutB Tryz.prog = true := by kernel_rfl
set_option maxRecDepth 100000 in
theorem lifted (os : Os) (started : os.Started) (H : Type) (enc : TypeId × Value → H) :
    ReturnsInHanded {} Tryz.checked os 3 .any (fun w args => (Rows.fnExactMatchesLabelSpec.pre enc Tryz.prog Tryz.f3 [] false w args ∧ laidMetH Tryz.prog Rows.fnExactMatchesLabelRow.laid w) ∧ sizedMet enc Tryz.prog Tryz.f3 (OpenSpec.ofChange Rows.fnExactMatchesLabelSpec) false w args)
      (Rows.fnExactMatchesLabelSpec.post enc Tryz.prog Tryz.f3 false true false false) := by
  refine handed_shaped (C := Tryz.checked) (X := fun w _ => laidMetH Tryz.prog Rows.fnExactMatchesLabelRow.laid w) own started (by kernel_rfl) Tryz.func3 (fun _ _ _ hh h => h.of_heap hh)
    (ChangeSpec.witness_shaped (enc := enc) (C := Tryz.checked) (os := os) (X := fun w _ => laidMetH Tryz.prog Rows.fnExactMatchesLabelRow.laid w) false (World.laidAll Tryz.prog os Rows.fnExactMatchesLabelRow.laid) #[.string ByteArray.empty, .bool false, .string ByteArray.empty] 8 (World.laidAll_os _ _ _) (World.shaped_of_ZipB (by kernel_rfl) (by kernel_rfl)) (by kernel_rfl) (by kernel_rfl) (by kernel_rfl) (by rw [MakeChecks.laidMetH_plain _ _ _ (by kernel_rfl)]; exact laidMet_laidAll _ (by kernel_rfl) (by kernel_rfl))) ?_
  intro W base args ds gs before hval0 hW hL hS
  rw [MakeChecks.laidMetH_plain _ _ _ (by kernel_rfl)] at hL
  have hval : ∀ (j : Nat) t v, Tryz.f3.params[j]? = some t → args[j]? = some v → Value.okWide Tryz.prog W .any base t v := hval0
  have hW' := hW
  obtain ⟨p, q, hA0, hV, rfl, hfz, hnd⟩ := hW
  have hA : DataW.TrodAll enc Tryz.prog W 0 (fun _ => true) true Tryz.f3.params.toList args.toList ds p := hA0
  rw [Tryz.params3] at hA hval
  obtain ⟨v0, vs0, d0, ds0, p0, q0, hargs, rfl, rfl, h0, r0⟩ := trodAll_cons hA
  obtain ⟨v1, vs1, d1, ds1, p1, q1, rfl, rfl, rfl, h1, r1⟩ := trodAll_cons r0
  obtain ⟨v2, vs2, d2, ds2, p2, q2, rfl, rfl, rfl, h2, r2⟩ := trodAll_cons r1
  obtain ⟨rfl, rfl, rfl⟩ := trodAll_nil r2
  obtain rfl : args = #[v0, v1, v2] := by cases args; simp_all
  obtain ⟨rfl, rfl⟩ := trodVars_none hV
  obtain ⟨a0, rfl, rfl, rfl, w0⟩ := open_string Tryz.underlying9 (hval 0 9 v0 rfl rfl) h0
  obtain ⟨a1, rfl, rfl, rfl⟩ := open_bool Tryz.underlying4 (hval 1 4 v1 rfl rfl) h1
  obtain ⟨a2, rfl, rfl, rfl, w2⟩ := open_string Tryz.underlying9 (hval 2 9 v2 rfl rfl) h2
  clear hA0 hval0
  refine (walk a0 a1 a2 W w0 w2 hL hS).mono fun e W' ⟨he, bel⟩ => ?_
  subst he
  exact ⟨_, rfl, _, _, _, [], _, [], hW', trodAll_mk1 (shut_bool Tryz.underlying4 _), (trodAll_cons_mk (shut_string Tryz.underlying9 w0) (trodAll_cons_mk (shut_bool Tryz.underlying4 _) (trodAll_cons_mk (shut_string Tryz.underlying9 w2) trodAll_mk0))), rfl, bel.frame _, fun h => by cases h⟩
theorem g0 : Rows.fnExactMatchesLabelRow.wf (OpenSpec.ofChange Rows.fnExactMatchesLabelSpec) = true := by kernel_rfl
theorem g1 : laidOutB Tryz.prog = true := by kernel_rfl
theorem g2 : mapsRowed Tryz.prog = true := by kernel_rfl
theorem g10 : (Rows.fnExactMatchesLabelRow.inPlace == Tryz.prog.inPlace 3) = true := by kernel_rfl
theorem g11 : (Rows.fnExactMatchesLabelRow.unfollowed == Tryz.prog.unfollowed 3) = true := by kernel_rfl
theorem g12 : (Rows.fnExactMatchesLabelRow.recurses == Tryz.prog.recurses 3) = true := by kernel_rfl
theorem g13 : (Rows.fnExactMatchesLabelRow.named == Tryz.prog.varsNamed 3) = true := by kernel_rfl
theorem facts : joinedFacts Tryz.pinned.checked.prog 3 Tryz.f3 Rows.fnExactMatchesLabelSpec Rows.fnExactMatchesLabelRow = true := by
  show joinedFacts Tryz.prog 3 Tryz.f3 Rows.fnExactMatchesLabelSpec Rows.fnExactMatchesLabelRow = true
  unfold joinedFacts
  rw [g0, g1, g2, g10, g11, g12, g13]
  kernel_rfl
theorem said : Rows.fnExactMatchesLabelRow.holds Tryz.pinned (OpenSpec.ofChange Rows.fnExactMatchesLabelSpec) :=
  OpenClaim.holds_of_wide 3 Tryz.f3 rfl rfl rfl rfl rfl rfl rfl ⟨rfl, rfl, rfl, rfl, rfl⟩ rfl rfl rfl rfl rfl (by kernel_rfl) Tryz.func3 facts
    (of_decide_eq_true (by kernel_rfl)) (by unfold Func.isWrapper; first | (rw [if_pos (by decide +kernel)]; kernel_rfl) | (rw [if_neg (by decide +kernel)]; exact ⟨rfl, rfl⟩))
    (fun os started H enc _ => lifted os started H enc)
theorem plain (f : FuncId) (fn : Func) (hf : Tryz.pinned.checked.prog.funcNamed Rows.fnExactMatchesLabelRow.func = some f) (hfn : Tryz.pinned.checked.prog.funcs[f]? = some fn) :
    true = Tryz.pinned.checked.prog.looks [] ∧ ∀ (j : Nat) t, fn.params[j]? = some t → Tryz.pinned.checked.prog.wantsStandIn t = false := by
  obtain rfl : f = 3 := Option.some.inj ((show Tryz.prog.funcNamed Rows.fnExactMatchesLabelRow.func = some 3 by kernel_rfl).symm.trans hf) |>.symm
  obtain rfl : fn = Tryz.f3 := (Option.some.inj (Tryz.func3.symm.trans hfn)).symm
  refine ⟨by kernel_rfl, fun j t ht => ?_⟩
  rw [Tryz.params3] at ht
  have hm : t ∈ [9, 4, 9] := by simpa using Array.mem_of_getElem? ht
  have hall : ([9, 4, 9].all fun u => !Tryz.prog.wantsStandIn u) = true := by kernel_rfl
  exact (show Tryz.prog.wantsStandIn t = false by simpa using List.all_eq_true.1 hall t hm)
theorem card : Rows.FnExactMatchesLabelCardSaid :=
  Claim7.holds_tied_plain_at .later [] _ _ _ _ said (fun _ h => by cases h) (by kernel_rfl) (fun _ h => by cases h) fnExactMatchesLabel_row_tie rfl ⟨rfl, rfl⟩ (by kernel_rfl) rfl plain (by kernel_rfl)
end Go.Proofs.YtmaadfoiaegdjaaGreatDoor.fnExactMatchesLabel
