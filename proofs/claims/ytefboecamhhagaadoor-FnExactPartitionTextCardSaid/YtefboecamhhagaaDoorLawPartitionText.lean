/- FnExactPartitionText: the program and the reference write one text, for every list. The tables are tied to the text of the program. -/
import Derived.Test.YtefboecamhhagaaDoorRows
import Derived.Test.YtefboecamhhagaaDoorCards
import Derived.Test.YtefboecamhhagaaDoorTie
import Derived.LaidMore
import Derived.MakeChecks
import Derived.Deep.DeepHandedRow
import Derived.Lib.LaidTab
import Derived.WalkSmall
import Derived.ChangeVars
import Derived.SevenTiedAt
import Derived.Stop.LaidErr
import Derived.Test.YtefboecamhhagaaDoorOpenI
import Derived.Test.YtefboecamhhagaaDoorHelpI
import Derived.Test.YtefboecamhhagaaDoorDec
import Derived.Test.YtefboecamhhagaaDoorList
import Derived.Test.YtefboecamhhagaaDoorPText
import Derived.WalkKit
import Derived.ProofKit
import Derived.OpenShut
import Derived.ShutString
import Derived.ChangeOld
import Derived.Below
set_option linter.unusedVariables false
set_option linter.unusedSimpArgs false
namespace Go.Proofs.YtefboecamhhagaaDoor.fnExactPartitionText
open Go.ChangeShapes Go.WideShapes Go.ChangeAt Go.RowKit
open Go.ChangeMaps (open_string shut_string)

theorem tabs {W : World} (h : laidMet Tryd.prog Rows.fnExactPartitionTextRow.laid W) : PowTab W := pow_tab (laidMet_tail (laidMet_tail h))
set_option maxHeartbeats 2000000 in
theorem walk (v0 : Value) (x : List Int) (w : World) (hx : RdI w v0 x ∧ I64s x) (hL : laidMet Tryd.prog Rows.fnExactPartitionTextRow.laid w) : Calls Tryd.prog 5 #[v0] w fun e w' => e = .returned (.bool true) ∧ Below w.heap.size w w' := by
  have x64 := Lib.hid hx.2
  have rx := hx.1
  clear hx
  obtain ⟨ax, capx, rfl⟩ := rx.slice
  by_cases hlx : x.length ≤ 1048576
  case neg =>
    have hd : (1048576 : Int) < x.length := by omega
    go_enter Tryd.func5, Tryd.ntmps5
    go_wp2
    go_ret
    exact ⟨rfl, Below.refl _ _⟩
  have hdx : ¬ (1048576 : Int) < x.length := by omega
  have hT := Lib.hid (tabs hL)
  clear hL
  go_enter Tryd.func5, Tryd.ntmps5
  go_wp2_with fail
  refine (toInt64S_any _ x _ hlx rx).mono ?_
  rintro e w1 ⟨c1, rfl, f_c1, hb1⟩
  have B1 : Below w.heap.size w w1 := (Below.refl _ _).trans (hb1.mono (by omega))
  have z1 := hb1.size
  replace f_c1 := f_c1.inn
  go_wp2_with fail
  refine (spec_PartitionText_any _ x _ f_c1.rd).mono ?_
  rintro e w2 ⟨rfl, hb2⟩
  have B2 : Below w.heap.size w w2 := B1.trans (hb2.mono (by omega))
  have z2 := hb2.size
  replace f_c1 := f_c1.below hb2 (by omega)
  go_wp2_with fail
  refine (toInt64S_any _ x _ hlx (rx.below B2)).mono ?_
  rintro e w3 ⟨c2, rfl, f_c2, hb3⟩
  have B3 : Below w.heap.size w w3 := B2.trans (hb3.mono (by omega))
  have z3 := hb3.size
  replace f_c1 := f_c1.below hb3 (by omega)
  replace f_c2 := f_c2.inn
  go_wp2_with fail
  refine (PartitionText_any _ x _ hlx x64.out (hT.out.below B3) f_c2.rd).mono ?_
  rintro e w4 ⟨rfl, hb4⟩
  have B4 : Below w.heap.size w w4 := B3.trans (hb4.mono (by omega))
  have z4 := hb4.size
  replace f_c1 := f_c1.below hb4 (by omega)
  replace f_c2 := f_c2.below hb4 (by omega)
  go_wp2_with fail
  refine (toInt64S_any _ x _ hlx (rx.below B4)).mono ?_
  rintro e w5 ⟨c3, rfl, f_c3, hb5⟩
  have B5 : Below w.heap.size w w5 := B4.trans (hb5.mono (by omega))
  have z5 := hb5.size
  replace f_c1 := f_c1.below hb5 (by omega)
  replace f_c2 := f_c2.below hb5 (by omega)
  replace f_c3 := f_c3.inn
  go_wp2_with fail
  refine (eqInt64S_any _ _ (x) (x) _ (by omega) f_c2.rd f_c3.rd).mono ?_
  rintro e w6 ⟨rfl, hb6⟩
  have B6 : Below w.heap.size w w6 := B5.trans (hb6.mono (by omega))
  have z6 := hb6.size
  replace f_c1 := f_c1.below hb6 (by omega)
  replace f_c2 := f_c2.below hb6 (by omega)
  replace f_c3 := f_c3.below hb6 (by omega)
  go_wp2_with fail
  go_ret
  exact ⟨rfl, B6⟩
theorem own : ownKnob Tryd.prog.godebug = none := by kernel_rfl
theorem laidOut : laidOutB Tryd.prog = true := by kernel_rfl
theorem door_met (os : Os) (args : Array Value) : laidMetH Tryd.prog Rows.fnExactPartitionTextRow.laid ((World.doorLaid Tryd.prog 400 os).forCall (fun _ _ => 0) ⟨#[], args, []⟩).memory := by
  rw [MakeChecks.laidMetH_plain _ _ _ (by kernel_rfl)]
  exact laidMet_of_run' 8 (by kernel_rfl) (by kernel_rfl)
set_option maxRecDepth 100000 in
theorem lifted (os : Os) (started : os.Started) (H : Type) (enc : TypeId × Value → H) :
    ReturnsInHanded {} Tryd.checked os 5 .any (fun w args => (Rows.fnExactPartitionTextSpec.pre enc Tryd.prog Tryd.f5 [] false w args ∧ laidMetH Tryd.prog Rows.fnExactPartitionTextRow.laid w) ∧ sizedMet enc Tryd.prog Tryd.f5 (OpenSpec.ofChange Rows.fnExactPartitionTextSpec) false w args)
      (Rows.fnExactPartitionTextSpec.post enc Tryd.prog Tryd.f5 false true false false) := by
  refine returnsInHanded_of_change_and (C := Tryd.checked) (X := fun w _ => laidMetH Tryd.prog Rows.fnExactPartitionTextRow.laid w) (fun _ _ _ hh h => h.of_heap hh) own started (by kernel_rfl) Tryd.func5
    (ChangeSpec.witness_shaped (enc := enc) (C := Tryd.checked) (os := os) (X := fun w _ => laidMetH Tryd.prog Rows.fnExactPartitionTextRow.laid w) false (World.doorLaid Tryd.prog 400 os) #[.slice none 0 0] 8 rfl (World.shaped_of_RefB (by kernel_rfl) (by kernel_rfl)) (by kernel_rfl) (by kernel_rfl) (by kernel_rfl) (door_met os _)) ?_
  intro W base args ds gs before hval0 hW _ _ hL _
  rw [MakeChecks.laidMetH_plain _ _ _ (by kernel_rfl)] at hL
  have hval : ∀ (j : Nat) t v, Tryd.f5.params[j]? = some t → args[j]? = some v → Value.okWide Tryd.prog W .any base t v := hval0
  have hW' := hW
  obtain ⟨p, q, hA0, hV, rfl, hfz, hnd⟩ := hW
  have hA : DataW.TrodAll enc Tryd.prog W 0 (fun _ => true) true Tryd.f5.params.toList args.toList ds p := hA0
  rw [Tryd.params5] at hA hval
  obtain ⟨v0, vs0, d0, ds0, p0, q0, hargs, rfl, rfl, h0, r0⟩ := trodAll_cons hA
  obtain ⟨rfl, rfl, rfl⟩ := trodAll_nil r0
  obtain rfl : args = #[v0] := by cases args; simp_all
  obtain ⟨rfl, rfl⟩ := trodVars_none hV
  have k0 := h0
  have lt0 : ∀ x ∈ p0, x.block < W.heap.size := by obtain ⟨m, hm⟩ := k0; exact DataW.trod_lt m _ _ _ hm
  obtain ⟨z0, w0⟩ := openI (hval 0 22 v0 rfl rfl) h0 lt0
  clear hA0 hval0
  refine (walk v0 z0 W w0 hL).mono fun e W' ⟨he, bel⟩ => ?_
  subst he
  exact ⟨_, rfl, _, _, _, [], _, [], hW', trodAll_mk1 (shut_bool Tryd.underlying4 _), (trodAll_cons_mk (Below.trod laidOut (by kernel_rfl) (of_decide_eq_true (by kernel_rfl)) k0 bel lt0) trodAll_mk0), rfl, bel.frame _, fun h => by cases h⟩
theorem said : Rows.fnExactPartitionTextRow.holds Tryd.pinned (OpenSpec.ofChange Rows.fnExactPartitionTextSpec) :=
  OpenClaim.holds_of_wide 5 Tryd.f5 rfl rfl rfl rfl rfl rfl rfl ⟨rfl, rfl, rfl, rfl, rfl⟩ rfl rfl rfl rfl rfl (by kernel_rfl) Tryd.func5 (by kernel_rfl)
    (of_decide_eq_true (by kernel_rfl)) (by unfold Func.isWrapper; first | (rw [if_pos (by decide +kernel)]; kernel_rfl) | (rw [if_neg (by decide +kernel)]; exact ⟨rfl, rfl⟩))
    (fun os started H enc _ => lifted os started H enc)
theorem plain (f : FuncId) (fn : Func) (hf : Tryd.pinned.checked.prog.funcNamed Rows.fnExactPartitionTextRow.func = some f) (hfn : Tryd.pinned.checked.prog.funcs[f]? = some fn) :
    true = Tryd.pinned.checked.prog.looks [] ∧ ∀ (j : Nat) t, fn.params[j]? = some t → Tryd.pinned.checked.prog.wantsStandIn t = false := by
  obtain rfl : f = 5 := Option.some.inj ((show Tryd.prog.funcNamed Rows.fnExactPartitionTextRow.func = some 5 by kernel_rfl).symm.trans hf) |>.symm
  obtain rfl : fn = Tryd.f5 := (Option.some.inj (Tryd.func5.symm.trans hfn)).symm
  refine ⟨by kernel_rfl, fun j t ht => ?_⟩
  rw [Tryd.params5] at ht
  have hm : t ∈ [22] := by simpa using Array.mem_of_getElem? ht
  have hall : ([22].all fun u => !Tryd.prog.wantsStandIn u) = true := by kernel_rfl
  exact (show Tryd.prog.wantsStandIn t = false by simpa using List.all_eq_true.1 hall t hm)
theorem card : Rows.FnExactPartitionTextCardSaid :=
  Claim7.holds_tied_plain_at .later [] _ _ _ _ said (fun _ h => by cases h) (by kernel_rfl) (fun _ h => by cases h) fnExactPartitionText_row_tie rfl ⟨rfl, rfl⟩ (by kernel_rfl) rfl plain (by kernel_rfl)
end Go.Proofs.YtefboecamhhagaaDoor.fnExactPartitionText
