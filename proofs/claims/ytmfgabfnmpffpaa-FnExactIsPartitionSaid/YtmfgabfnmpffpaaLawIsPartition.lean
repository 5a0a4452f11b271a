/- FnExactIsPartition: the program and the reference agree which lists are partitions, for every list. No condition. -/
import Derived.Test.YtmfgabfnmpffpaaRows
import Derived.Test.YtmfgabfnmpffpaaOpenI
import Derived.Test.YtmfgabfnmpffpaaHelpI
import Derived.Test.YtmfgabfnmpffpaaPartW
import Derived.WalkKit
import Derived.ProofKit
import Derived.OpenShut
import Derived.ShutString
import Derived.ChangeOld
import Derived.Below
set_option linter.unusedVariables false
set_option linter.unusedSimpArgs false
namespace Go.Proofs.Ytmfgabfnmpffpaa.fnExactIsPartition
open Go.ChangeShapes Go.WideShapes Go.ChangeAt Go.RowKit
open Go.ChangeMaps (open_string shut_string)

set_option maxHeartbeats 1000000 in
theorem walk (v0 : Value) (x : List Int) (w : World) (hx : RdI w v0 x ∧ I64s x) : Calls Try.prog 8 #[v0] w fun e w' => e = .returned (.bool true) ∧ Below w.heap.size w w' := by
  by_cases hlx : x.length ≤ 1048576
  case neg =>
    have hd : (1048576 : Int) < x.length := by omega
    obtain ⟨ax, capx, rfl⟩ := hx.1.slice
    go_enter Try.func8, Try.ntmps8
    go_wp2
    go_ret
    exact ⟨rfl, Below.refl _ _⟩
  have hdx : ¬ (1048576 : Int) < x.length := by omega
  have x64 := Lib.hid hx.2
  have rx := hx.1
  obtain ⟨ax, capx, rfl⟩ := hx.1.slice
  clear hx
  go_enter Try.func8, Try.ntmps8
  go_wp2_with fail
  refine (toInt64S_any _ x _ hlx rx).mono ?_
  rintro e w1 ⟨c1, rfl, f_c1, hb1⟩
  have B1 : Below w.heap.size w w1 := (Below.refl _ _).trans (hb1.mono (by omega))
  have z1 := hb1.size
  replace f_c1 := f_c1.inn
  go_wp2_with fail
  refine (spec_IsPartition_any _ x _ f_c1.rd).mono ?_
  rintro e w2 ⟨rfl, hb2⟩
  have B2 : Below w.heap.size w w2 := B1.trans (hb2.mono (by omega))
  have z2 := hb2.size
  replace f_c1 := f_c1.below hb2 (by omega)
  go_wp2_with fail
  refine (toInt64S_any _ x _ hlx (rx.below B2)).mono ?_
  rintro e w3 ⟨c2, rfl, f_c2, hb3⟩
  have B3 : Below w.heap.size w w3 := B2.trans (hb3.mono (by omega))
  have z3 := hb3.size
  replace f_c1 := f_c1.below hb3 (by omega)
  replace f_c2 := f_c2.inn
  go_wp2_with fail
  refine (IsPartition_any _ x _ hlx x64.out f_c2.rd).mono ?_
  rintro e w4 ⟨rfl, hb4⟩
  have B4 : Below w.heap.size w w4 := B3.trans (hb4.mono (by omega))
  have z4 := hb4.size
  replace f_c1 := f_c1.below hb4 (by omega)
  replace f_c2 := f_c2.below hb4 (by omega)
  go_wp2_with fail
  refine (toInt64S_any _ x _ hlx (rx.below B4)).mono ?_
  rintro e w5 ⟨c3, rfl, f_c3, hb5⟩
  have B5 : Below w.heap.size w w5 := B4.trans (hb5.mono (by omega))
  have z5 := hb5.size
  replace f_c1 := f_c1.below hb5 (by omega)
  replace f_c2 := f_c2.below hb5 (by omega)
  replace f_c3 := f_c3.inn
  go_wp2_with fail
  refine (eqInt64S_any _ _ x x _ (by omega) f_c2.rd f_c3.rd).mono ?_
  rintro e w6 ⟨rfl, hb6⟩
  have B6 : Below w.heap.size w w6 := B5.trans (hb6.mono (by omega))
  have z6 := hb6.size
  replace f_c1 := f_c1.below hb6 (by omega)
  replace f_c2 := f_c2.below hb6 (by omega)
  replace f_c3 := f_c3.below hb6 (by omega)
  go_wp2_with fail
  go_ret
  exact ⟨rfl, B6⟩
theorem own : ownKnob Try.prog.godebug = none := by kernel_rfl
theorem laidOut : laidOutB Try.prog = true := by kernel_rfl
set_option maxRecDepth 100000 in
theorem lifted (os : Os) (started : os.Started) (H : Type) (enc : TypeId × Value → H) :
    ReturnsInHanded {} Try.checked os 8 .any (Rows.fnExactIsPartitionSpec.pre6 enc Try.prog Try.f8 Rows.fnExactIsPartitionRow.domain false) (Rows.fnExactIsPartitionSpec.post enc Try.prog Try.f8 false true false false) := by
  refine returnsInHanded_of_change (C := Try.checked) own started (by kernel_rfl) Try.func8
    (ChangeSpec.witness6 (enc := enc) (C := Try.checked) false ⟨#[], #[.slice none 0 0], []⟩ 8 (by kernel_rfl) (by kernel_rfl) (by kernel_rfl) (by kernel_rfl)) ?_
  intro W base args ds gs before hval0 hW hcnd _
  have hval : ∀ (j : Nat) t v, Try.f8.params[j]? = some t → args[j]? = some v → Value.okWide Try.prog W .any base t v := hval0
  have hW' := hW
  obtain ⟨p, q, hA0, hV, rfl, hfz, hnd⟩ := hW
  have hA : DataW.TrodAll enc Try.prog W 0 (fun _ => true) true Try.f8.params.toList args.toList ds p := hA0
  rw [Try.params8] at hA hval
  obtain ⟨v0, vs0, d0, ds0, p0, q0, hargs, rfl, rfl, h0, r0⟩ := trodAll_cons hA
  obtain ⟨rfl, rfl, rfl⟩ := trodAll_nil r0
  obtain rfl : args = #[v0] := by cases args; simp_all
  obtain ⟨rfl, rfl⟩ := trodVars_none hV
  have k0 := h0
  have lt0 : ∀ x ∈ p0, x.block < W.heap.size := by obtain ⟨m, hm⟩ := k0; exact DataW.trod_lt m _ _ _ hm
  obtain ⟨z0, w0⟩ := openI (hval 0 28 v0 rfl rfl) h0 lt0
  clear hA0 hval0
  refine (walk v0 z0 W w0).mono fun e W' ⟨he, bel⟩ => ?_
  subst he
  exact ⟨_, rfl, _, _, _, [], _, [], hW', trodAll_mk1 (shut_bool Try.underlying4 _), (trodAll_cons_mk (Below.trod laidOut (by kernel_rfl) (of_decide_eq_true (by kernel_rfl)) k0 bel lt0) trodAll_mk0), rfl, bel.frame _, fun h => by cases h⟩
theorem over : Rows.fnExactIsPartitionRow.holds Try.pinned (OpenSpec.ofChange Rows.fnExactIsPartitionSpec) :=
  OpenClaim.holds_of_wide 8 Try.f8 rfl rfl rfl rfl rfl rfl rfl ⟨rfl, rfl, rfl, rfl, rfl⟩ rfl rfl rfl rfl rfl (by kernel_rfl) Try.func8 (by kernel_rfl)
    (of_decide_eq_true (by kernel_rfl)) (by unfold Func.isWrapper; first | (rw [if_pos (by decide +kernel)]; kernel_rfl) | (rw [if_neg (by decide +kernel)]; exact ⟨rfl, rfl⟩))
    (fun os started H enc _ => lifted os started H enc)
theorem proved : Rows.FnExactIsPartitionSaid := over
end Go.Proofs.Ytmfgabfnmpffpaa.fnExactIsPartition
