/- FnExactRefinesPartition: the program and the reference agree which partition refines which, for every two lists. No condition. -/
import Derived.Test.YthnlnnbhkpnkgaaRows
import Derived.Test.YthnlnnbhkpnkgaaOpenI
import Derived.Test.YthnlnnbhkpnkgaaHelpI
import Derived.Test.YthnlnnbhkpnkgaaPartX
import Derived.WalkKit
import Derived.ProofKit
import Derived.OpenShut
import Derived.ShutString
import Derived.ChangeOld
import Derived.Below
set_option linter.unusedVariables false
set_option linter.unusedSimpArgs false
namespace Go.Proofs.Ythnlnnbhkpnkgaa.fnExactRefinesPartition
open Go.ChangeShapes Go.WideShapes Go.ChangeAt Go.RowKit
open Go.ChangeMaps (open_string shut_string)

set_option maxHeartbeats 1000000 in
theorem walk (v0 : Value) (x : List Int) (v1 : Value) (y : List Int) (w : World) (hx : RdI w v0 x ∧ I64s x) (hy : RdI w v1 y ∧ I64s y) : Calls Try.prog 4 #[v0, v1] w fun e w' => e = .returned (.bool true) ∧ Below w.heap.size w w' := by
  by_cases hlx : x.length ≤ 1048576
  case neg =>
    have hd : (1048576 : Int) < x.length := by omega
    obtain ⟨ax, capx, rfl⟩ := hx.1.slice
    obtain ⟨ay, capy, rfl⟩ := hy.1.slice
    go_enter Try.func4, Try.ntmps4
    go_wp2
    go_ret
    exact ⟨rfl, Below.refl _ _⟩
  have hdx : ¬ (1048576 : Int) < x.length := by omega
  by_cases hly : y.length ≤ 1048576
  case neg =>
    have hd : (1048576 : Int) < y.length := by omega
    obtain ⟨ax, capx, rfl⟩ := hx.1.slice
    obtain ⟨ay, capy, rfl⟩ := hy.1.slice
    go_enter Try.func4, Try.ntmps4
    go_wp2
    go_ret
    exact ⟨rfl, Below.refl _ _⟩
  have hdy : ¬ (1048576 : Int) < y.length := by omega
  have x64 := Lib.hid hx.2
  have rx := hx.1
  obtain ⟨ax, capx, rfl⟩ := hx.1.slice
  clear hx
  have y64 := Lib.hid hy.2
  have ry := hy.1
  obtain ⟨ay, capy, rfl⟩ := hy.1.slice
  clear hy
  go_enter Try.func4, Try.ntmps4
  go_wp2_with fail
  refine (toInt64S_any _ x _ hlx rx).mono ?_
  rintro e w1 ⟨c1, rfl, f_c1, hb1⟩
  have B1 : Below w.heap.size w w1 := (Below.refl _ _).trans (hb1.mono (by omega))
  have z1 := hb1.size
  replace f_c1 := f_c1.inn
  go_wp2_with fail
  refine (toInt64S_any _ y _ hly (ry.below B1)).mono ?_
  rintro e w2 ⟨c2, rfl, f_c2, hb2⟩
  have B2 : Below w.heap.size w w2 := B1.trans (hb2.mono (by omega))
  have z2 := hb2.size
  replace f_c1 := f_c1.below hb2 (by omega)
  replace f_c2 := f_c2.inn
  go_wp2_with fail
  refine (spec_RefinesPartition_any _ _ x y _ hlx hly f_c1.rd f_c2.rd).mono ?_
  rintro e w3 ⟨rfl, hb3⟩
  have B3 : Below w.heap.size w w3 := B2.trans (hb3.mono (by omega))
  have z3 := hb3.size
  replace f_c1 := f_c1.below hb3 (by omega)
  replace f_c2 := f_c2.below hb3 (by omega)
  go_wp2_with fail
  refine (toInt64S_any _ x _ hlx (rx.below B3)).mono ?_
  rintro e w4 ⟨c3, rfl, f_c3, hb4⟩
  have B4 : Below w.heap.size w w4 := B3.trans (hb4.mono (by omega))
  have z4 := hb4.size
  replace f_c1 := f_c1.below hb4 (by omega)
  replace f_c2 := f_c2.below hb4 (by omega)
  replace f_c3 := f_c3.inn
  go_wp2_with fail
  refine (toInt64S_any _ y _ hly (ry.below B4)).mono ?_
  rintro e w5 ⟨c4, rfl, f_c4, hb5⟩
  have B5 : Below w.heap.size w w5 := B4.trans (hb5.mono (by omega))
  have z5 := hb5.size
  replace f_c1 := f_c1.below hb5 (by omega)
  replace f_c2 := f_c2.below hb5 (by omega)
  replace f_c3 := f_c3.below hb5 (by omega)
  replace f_c4 := f_c4.inn
  go_wp2_with fail
  refine (RefinesPartition_any _ _ x y _ hlx hly x64.out y64.out f_c3.rd f_c4.rd).mono ?_
  rintro e w6 ⟨rfl, hb6⟩
  have B6 : Below w.heap.size w w6 := B5.trans (hb6.mono (by omega))
  have z6 := hb6.size
  replace f_c1 := f_c1.below hb6 (by omega)
  replace f_c2 := f_c2.below hb6 (by omega)
  replace f_c3 := f_c3.below hb6 (by omega)
  replace f_c4 := f_c4.below hb6 (by omega)
  go_wp2_with fail
  refine (toInt64S_any _ x _ hlx (rx.below B6)).mono ?_
  rintro e w7 ⟨c5, rfl, f_c5, hb7⟩
  have B7 : Below w.heap.size w w7 := B6.trans (hb7.mono (by omega))
  have z7 := hb7.size
  replace f_c1 := f_c1.below hb7 (by omega)
  replace f_c2 := f_c2.below hb7 (by omega)
  replace f_c3 := f_c3.below hb7 (by omega)
  replace f_c4 := f_c4.below hb7 (by omega)
  replace f_c5 := f_c5.inn
  go_wp2_with fail
  refine (eqInt64S_any _ _ x x _ (by omega) f_c3.rd f_c5.rd).mono ?_
  rintro e w8 ⟨rfl, hb8⟩
  have B8 : Below w.heap.size w w8 := B7.trans (hb8.mono (by omega))
  have z8 := hb8.size
  replace f_c1 := f_c1.below hb8 (by omega)
  replace f_c2 := f_c2.below hb8 (by omega)
  replace f_c3 := f_c3.below hb8 (by omega)
  replace f_c4 := f_c4.below hb8 (by omega)
  replace f_c5 := f_c5.below hb8 (by omega)
  go_wp2_with fail
  refine (toInt64S_any _ y _ hly (ry.below B8)).mono ?_
  rintro e w9 ⟨c6, rfl, f_c6, hb9⟩
  have B9 : Below w.heap.size w w9 := B8.trans (hb9.mono (by omega))
  have z9 := hb9.size
  replace f_c1 := f_c1.below hb9 (by omega)
  replace f_c2 := f_c2.below hb9 (by omega)
  replace f_c3 := f_c3.below hb9 (by omega)
  replace f_c4 := f_c4.below hb9 (by omega)
  replace f_c5 := f_c5.below hb9 (by omega)
  replace f_c6 := f_c6.inn
  go_wp2_with fail
  refine (eqInt64S_any _ _ y y _ (by omega) f_c4.rd f_c6.rd).mono ?_
  rintro e w10 ⟨rfl, hb10⟩
  have B10 : Below w.heap.size w w10 := B9.trans (hb10.mono (by omega))
  have z10 := hb10.size
  replace f_c1 := f_c1.below hb10 (by omega)
  replace f_c2 := f_c2.below hb10 (by omega)
  replace f_c3 := f_c3.below hb10 (by omega)
  replace f_c4 := f_c4.below hb10 (by omega)
  replace f_c5 := f_c5.below hb10 (by omega)
  replace f_c6 := f_c6.below hb10 (by omega)
  go_wp2_with fail
  go_ret
  exact ⟨rfl, B10⟩
theorem own : ownKnob Try.prog.godebug = none := by kernel_rfl
theorem laidOut : laidOutB Try.prog = true := by kernel_rfl
set_option maxRecDepth 100000 in
theorem lifted (os : Os) (started : os.Started) (H : Type) (enc : TypeId × Value → H) :
    ReturnsInHanded {} Try.checked os 4 .any (Rows.fnExactRefinesPartitionSpec.pre6 enc Try.prog Try.f4 Rows.fnExactRefinesPartitionRow.domain false) (Rows.fnExactRefinesPartitionSpec.post enc Try.prog Try.f4 false true false false) := by
  refine returnsInHanded_of_change (C := Try.checked) own started (by kernel_rfl) Try.func4
    (ChangeSpec.witness6 (enc := enc) (C := Try.checked) false ⟨#[], #[.slice none 0 0, .slice none 0 0], []⟩ 8 (by kernel_rfl) (by kernel_rfl) (by kernel_rfl) (by kernel_rfl)) ?_
  intro W base args ds gs before hval0 hW hcnd _
  have hval : ∀ (j : Nat) t v, Try.f4.params[j]? = some t → args[j]? = some v → Value.okWide Try.prog W .any base t v := hval0
  have hW' := hW
  obtain ⟨p, q, hA0, hV, rfl, hfz, hnd⟩ := hW
  have hA : DataW.TrodAll enc Try.prog W 0 (fun _ => true) true Try.f4.params.toList args.toList ds p := hA0
  rw [Try.params4] at hA hval
  obtain ⟨v0, vs0, d0, ds0, p0, q0, hargs, rfl, rfl, h0, r0⟩ := trodAll_cons hA
  obtain ⟨v1, vs1, d1, ds1, p1, q1, rfl, rfl, rfl, h1, r1⟩ := trodAll_cons r0
  obtain ⟨rfl, rfl, rfl⟩ := trodAll_nil r1
  obtain rfl : args = #[v0, v1] := by cases args; simp_all
  obtain ⟨rfl, rfl⟩ := trodVars_none hV
  have k0 := h0
  have lt0 : ∀ x ∈ p0, x.block < W.heap.size := by obtain ⟨m, hm⟩ := k0; exact DataW.trod_lt m _ _ _ hm
  obtain ⟨z0, w0⟩ := openI (hval 0 27 v0 rfl rfl) h0 lt0
  have k1 := h1
  have lt1 : ∀ x ∈ p1, x.block < W.heap.size := by obtain ⟨m, hm⟩ := k1; exact DataW.trod_lt m _ _ _ hm
  obtain ⟨z1, w1⟩ := openI (hval 1 27 v1 rfl rfl) h1 lt1
  clear hA0 hval0
  refine (walk v0 z0 v1 z1 W w0 w1).mono fun e W' ⟨he, bel⟩ => ?_
  subst he
  exact ⟨_, rfl, _, _, _, [], _, [], hW', trodAll_mk1 (shut_bool Try.underlying4 _), (trodAll_cons_mk (Below.trod laidOut (by kernel_rfl) (of_decide_eq_true (by kernel_rfl)) k0 bel lt0) (trodAll_cons_mk (Below.trod laidOut (by kernel_rfl) (of_decide_eq_true (by kernel_rfl)) k1 bel lt1) trodAll_mk0)), rfl, bel.frame _, fun h => by cases h⟩
theorem over : Rows.fnExactRefinesPartitionRow.holds Try.pinned (OpenSpec.ofChange Rows.fnExactRefinesPartitionSpec) :=
  OpenClaim.holds_of_wide 4 Try.f4 rfl rfl rfl rfl rfl rfl rfl ⟨rfl, rfl, rfl, rfl, rfl⟩ rfl rfl rfl rfl rfl (by kernel_rfl) Try.func4 (by kernel_rfl)
    (of_decide_eq_true (by kernel_rfl)) (by unfold Func.isWrapper; first | (rw [if_pos (by decide +kernel)]; kernel_rfl) | (rw [if_neg (by decide +kernel)]; exact ⟨rfl, rfl⟩))
    (fun os started H enc _ => lifted os started H enc)
theorem proved : Rows.FnExactRefinesPartitionSaid := over
end Go.Proofs.Ythnlnnbhkpnkgaa.fnExactRefinesPartition
