/- FnExactIsRelation: the program and the reference answer alike, for every number and every list of lists. No condition. -/
import Derived.Test.YthnlnnbhkpnkgaaRows
import Derived.Test.YthnlnnbhkpnkgaaOpenI
import Derived.Test.YthnlnnbhkpnkgaaOpenG
import Derived.Test.YthnlnnbhkpnkgaaHelpI
import Derived.Test.YthnlnnbhkpnkgaaHelpII
import Derived.Test.YthnlnnbhkpnkgaaRel
import Derived.WalkKit
import Derived.ProofKit
import Derived.OpenShut
import Derived.ShutString
import Derived.ChangeOld
import Derived.Below
set_option linter.unusedVariables false
set_option linter.unusedSimpArgs false
namespace Go.Proofs.Ythnlnnbhkpnkgaa.fnExactIsRelation
open Go.ChangeShapes Go.WideShapes Go.ChangeAt Go.RowKit
open Go.ChangeMaps (open_string shut_string)

set_option maxHeartbeats 2000000 in
theorem walk (n : Int) (v1 : Value) (r : List (List Int)) (w : World) (hn : (Lit.int .i64 n).wf = true) (hr : RdII w v1 r ∧ ∀ i, i < r.length → I64s (rnth r i)) : Calls Try.prog 5 #[.int .i64 n, v1] w fun e w' => e = .returned (.bool true) ∧ Below w.heap.size w w' := by
  have r64 := Lib.hid hr.2
  have rr := hr.1
  clear hr
  go_enter Try.func5, Try.ntmps5
  by_cases hlr : r.length + total r ≤ 1048576
  case neg =>
    go_wp2_with fail
    refine (szInt64SS_any _ r (1048576) _ (by omega) (by omega) rr).mono ?_
    rw [show szII r (1048576) = -1 by unfold szII; rw [if_neg (by omega)]]
    rintro e w' ⟨rfl, rfl⟩
    go_wp2_with fail
    go_ret
    exact ⟨rfl, Below.refl _ _⟩
  go_wp2_with fail
  refine (szInt64SS_any _ r (1048576) _ (by omega) (by omega) rr).mono ?_
  rw [show szII r (1048576) = 1048576 - (r.length + total r : Nat) by unfold szII; rw [if_pos (by omega)]; omega]
  rintro e w' ⟨rfl, rfl⟩
  have hnr : ¬ (1048576 - (r.length + total r : Nat) < 0) := by omega
  have hn64 := Lib.hid (i64_of_wf hn)
  clear hn
  go_wp2_with fail
  refine (toInt64SS_any _ r _ (by omega) (fun i hi => by have := row_le r i hi; omega) rr).mono ?_
  rintro e w1 ⟨c1, rfl, f_c1, hb1⟩
  have B1 : Below w.heap.size w w1 := (Below.refl _ _).trans (hb1.mono (by omega))
  have z1 := hb1.size
  replace f_c1 := f_c1.inn
  go_wp2_with fail
  refine (spec_IsRelation_any _ n r _ f_c1.rd).mono ?_
  rintro e w2 ⟨rfl, hb2⟩
  have B2 : Below w.heap.size w w2 := B1.trans (hb2.mono (by omega))
  have z2 := hb2.size
  replace f_c1 := f_c1.below hb2 (by omega)
  go_wp2_with fail
  refine (toInt64SS_any _ r _ (by omega) (fun i hi => by have := row_le r i hi; omega) (rr.below B2)).mono ?_
  rintro e w3 ⟨c2, rfl, f_c2, hb3⟩
  have B3 : Below w.heap.size w w3 := B2.trans (hb3.mono (by omega))
  have z3 := hb3.size
  replace f_c1 := f_c1.below hb3 (by omega)
  replace f_c2 := f_c2.inn
  go_wp2_with fail
  refine (IsRelation_any _ n r _ hn64.out f_c2.rd).mono ?_
  rintro e w4 ⟨rfl, hb4⟩
  have B4 : Below w.heap.size w w4 := B3.trans (hb4.mono (by omega))
  have z4 := hb4.size
  replace f_c1 := f_c1.below hb4 (by omega)
  replace f_c2 := f_c2.below hb4 (by omega)
  go_wp2_with fail
  refine (toInt64SS_any _ r _ (by omega) (fun i hi => by have := row_le r i hi; omega) (rr.below B4)).mono ?_
  rintro e w5 ⟨c3, rfl, f_c3, hb5⟩
  have B5 : Below w.heap.size w w5 := B4.trans (hb5.mono (by omega))
  have z5 := hb5.size
  replace f_c1 := f_c1.below hb5 (by omega)
  replace f_c2 := f_c2.below hb5 (by omega)
  replace f_c3 := f_c3.inn
  go_wp2_with fail
  refine (eqInt64SS_any _ _ (r) (r) _ (fun i hi => by have := row_le r i hi; omega) f_c2.rd f_c3.rd).mono ?_
  rintro e w6 ⟨rfl, hb6⟩
  have B6 : Below w.heap.size w w6 := B5.trans (hb6.mono (by omega))
  have z6 := hb6.size
  replace f_c1 := f_c1.below hb6 (by omega)
  replace f_c2 := f_c2.below hb6 (by omega)
  replace f_c3 := f_c3.below hb6 (by omega)
  go_wp2_with fail
  go_ret
  exact ⟨rfl, B6⟩
theorem own : ownKnob Try.prog.godebug = none := by kernel_rfl
theorem laidOut : laidOutB Try.prog = true := by kernel_rfl
set_option maxRecDepth 100000 in
theorem lifted (os : Os) (started : os.Started) (H : Type) (enc : TypeId × Value → H) :
    ReturnsInHanded {} Try.checked os 5 .any (Rows.fnExactIsRelationSpec.pre6 enc Try.prog Try.f5 Rows.fnExactIsRelationRow.domain false) (Rows.fnExactIsRelationSpec.post enc Try.prog Try.f5 false true false false) := by
  refine returnsInHanded_of_change (C := Try.checked) own started (by kernel_rfl) Try.func5
    (ChangeSpec.witness6 (enc := enc) (C := Try.checked) false ⟨#[], #[.int .i64 0, .slice none 0 0], []⟩ 8 (by kernel_rfl) (by kernel_rfl) (by kernel_rfl) (by kernel_rfl)) ?_
  intro W base args ds gs before hval0 hW hcnd _
  have hval : ∀ (j : Nat) t v, Try.f5.params[j]? = some t → args[j]? = some v → Value.okWide Try.prog W .any base t v := hval0
  have hW' := hW
  obtain ⟨p, q, hA0, hV, rfl, hfz, hnd⟩ := hW
  have hA : DataW.TrodAll enc Try.prog W 0 (fun _ => true) true Try.f5.params.toList args.toList ds p := hA0
  rw [Try.params5] at hA hval
  obtain ⟨v0, vs0, d0, ds0, p0, q0, hargs, rfl, rfl, h0, r0⟩ := trodAll_cons hA
  obtain ⟨v1, vs1, d1, ds1, p1, q1, rfl, rfl, rfl, h1, r1⟩ := trodAll_cons r0
  obtain ⟨rfl, rfl, rfl⟩ := trodAll_nil r1
  obtain rfl : args = #[v0, v1] := by cases args; simp_all
  obtain ⟨rfl, rfl⟩ := trodVars_none hV
  obtain ⟨a0, rfl, rfl, rfl, w0⟩ := open_int Try.underlying2 (hval 0 2 v0 rfl rfl) h0
  have k1 := h1
  have lt1 : ∀ x ∈ p1, x.block < W.heap.size := by obtain ⟨m, hm⟩ := k1; exact DataW.trod_lt m _ _ _ hm
  obtain ⟨z1, w1⟩ := openII (hval 1 32 v1 rfl rfl) h1 lt1
  clear hA0 hval0
  refine (walk a0 v1 z1 W w0 w1).mono fun e W' ⟨he, bel⟩ => ?_
  subst he
  exact ⟨_, rfl, _, _, _, [], _, [], hW', trodAll_mk1 (shut_bool Try.underlying4 _), (trodAll_cons_mk (shut_int Try.underlying2 w0) (trodAll_cons_mk (Below.trod laidOut (by kernel_rfl) (of_decide_eq_true (by kernel_rfl)) k1 bel lt1) trodAll_mk0)), rfl, bel.frame _, fun h => by cases h⟩
theorem over : Rows.fnExactIsRelationRow.holds Try.pinned (OpenSpec.ofChange Rows.fnExactIsRelationSpec) :=
  OpenClaim.holds_of_wide 5 Try.f5 rfl rfl rfl rfl rfl rfl rfl ⟨rfl, rfl, rfl, rfl, rfl⟩ rfl rfl rfl rfl rfl (by kernel_rfl) Try.func5 (by kernel_rfl)
    (of_decide_eq_true (by kernel_rfl)) (by unfold Func.isWrapper; first | (rw [if_pos (by decide +kernel)]; kernel_rfl) | (rw [if_neg (by decide +kernel)]; exact ⟨rfl, rfl⟩))
    (fun os started H enc _ => lifted os started H enc)
theorem proved : Rows.FnExactIsRelationSaid := over
end Go.Proofs.Ythnlnnbhkpnkgaa.fnExactIsRelation
