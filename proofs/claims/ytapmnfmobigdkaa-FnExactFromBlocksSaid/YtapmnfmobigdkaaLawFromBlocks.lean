/- FnExactFromBlocks: the program and the reference give one partition, for every number and every list of lists. No condition. -/
import Derived.Test.YtapmnfmobigdkaaRows
import Derived.Test.YtapmnfmobigdkaaOpenI
import Derived.Test.YtapmnfmobigdkaaOpenG
import Derived.Test.YtapmnfmobigdkaaHelpI
import Derived.Test.YtapmnfmobigdkaaHelpII
import Derived.Test.YtapmnfmobigdkaaFrom
import Derived.Test.YtapmnfmobigdkaaFromI
import Derived.WalkKit
import Derived.ProofKit
import Derived.OpenShut
import Derived.ShutString
import Derived.ChangeOld
import Derived.Below
set_option linter.unusedVariables false
set_option linter.unusedSimpArgs false
namespace Go.Proofs.Ytapmnfmobigdkaa.fnExactFromBlocks
open Go.ChangeShapes Go.WideShapes Go.ChangeAt Go.RowKit
open Go.ChangeMaps (open_string shut_string)

set_option maxHeartbeats 2000000 in
theorem walk (n : Int) (v1 : Value) (r : List (List Int)) (w : World) (hn : (Lit.int .i64 n).wf = true) (hr : RdII w v1 r ∧ ∀ i, i < r.length → I64s (rnth r i)) : Calls Try.prog 6 #[.int .i64 n, v1] w fun e w' => e = .returned (.bool true) ∧ Below w.heap.size w w' := by
  have r64 := Lib.hid hr.2
  have rr := hr.1
  clear hr
  go_enter Try.func6, Try.ntmps6
  by_cases hlr : r.length + total r ≤ 1048576
  case neg =>
    go_wp2_with fail
    refine (szInt64SS_any _ r (1048576) _ (by omega) (by omega) rr).mono ?_
    rw [show szII r (1048576) = -1 by unfold szII; rw [if_neg (by omega)]]
    rintro e w' ⟨rfl, rfl⟩
    go_wp2_with fail
    go_ret
    exact ⟨rfl, Below.refl _ _⟩
  go_wp2_with fail
  refine (szInt64SS_any _ r (1048576) _ (by omega) (by omega) rr).mono ?_
  rw [show szII r (1048576) = 1048576 - (r.length + total r : Nat) by unfold szII; rw [if_pos (by omega)]; omega]
  rintro e w' ⟨rfl, rfl⟩
  have hnr : ¬ (1048576 - (r.length + total r : Nat) < 0) := by omega
  have hn64 := Lib.hid (i64_of_wf hn)
  have hfo := fbOut_len n r
  clear hn
  go_wp2_with fail
  refine (toInt64SS_any _ r _ (by omega) (fun i hi => by have := row_le r i hi; omega) rr).mono ?_
  rintro e w1 ⟨c1, rfl, f_c1, hb1⟩
  have B1 : Below w.heap.size w w1 := (Below.refl _ _).trans (hb1.mono (by omega))
  have z1 := hb1.size
  replace f_c1 := f_c1.inn
  go_wp2_with fail
  refine (spec_FromBlocks_any n _ r _ f_c1.rd).mono ?_
  rintro e w2 ⟨s0, rfl, f_s0, hb2⟩
  have B2 : Below w.heap.size w w2 := B1.trans (hb2.mono (by omega))
  have z2 := hb2.size
  replace f_c1 := f_c1.below hb2 (by omega)
  replace f_s0 := f_s0.inn
  go_wp2_with fail
  refine (toInt64SS_any _ r _ (by omega) (fun i hi => by have := row_le r i hi; omega) (rr.below B2)).mono ?_
  rintro e w3 ⟨c2, rfl, f_c2, hb3⟩
  have B3 : Below w.heap.size w w3 := B2.trans (hb3.mono (by omega))
  have z3 := hb3.size
  replace f_c1 := f_c1.below hb3 (by omega)
  replace f_s0 := f_s0.below hb3 (by omega)
  replace f_c2 := f_c2.inn
  go_wp2_with fail
  refine (FromBlocks_any n _ r _ hn64.out (by omega) f_c2.rd).mono ?_
  rintro e w4 ⟨g0, rfl, f_g0, hb4⟩
  have B4 : Below w.heap.size w w4 := B3.trans (hb4.mono (by omega))
  have z4 := hb4.size
  replace f_c1 := f_c1.below hb4 (by omega)
  replace f_s0 := f_s0.below hb4 (by omega)
  replace f_c2 := f_c2.below hb4 (by omega)
  replace f_g0 := f_g0.inn
  go_wp2_with fail
  refine (eqInt64S_any _ _ (fbOut n r) (fbOut n r) _ (by omega) f_g0.rd f_s0.rd).mono ?_
  rintro e w5 ⟨rfl, hb5⟩
  have B5 : Below w.heap.size w w5 := B4.trans (hb5.mono (by omega))
  have z5 := hb5.size
  replace f_c1 := f_c1.below hb5 (by omega)
  replace f_s0 := f_s0.below hb5 (by omega)
  replace f_c2 := f_c2.below hb5 (by omega)
  replace f_g0 := f_g0.below hb5 (by omega)
  go_wp2_with fail
  refine (toInt64SS_any _ r _ (by omega) (fun i hi => by have := row_le r i hi; omega) (rr.below B5)).mono ?_
  rintro e w6 ⟨c3, rfl, f_c3, hb6⟩
  have B6 : Below w.heap.size w w6 := B5.trans (hb6.mono (by omega))
  have z6 := hb6.size
  replace f_c1 := f_c1.below hb6 (by omega)
  replace f_s0 := f_s0.below hb6 (by omega)
  replace f_c2 := f_c2.below hb6 (by omega)
  replace f_g0 := f_g0.below hb6 (by omega)
  replace f_c3 := f_c3.inn
  go_wp2_with fail
  refine (eqInt64SS_any _ _ (r) (r) _ (fun i hi => by have := row_le r i hi; omega) f_c2.rd f_c3.rd).mono ?_
  rintro e w7 ⟨rfl, hb7⟩
  have B7 : Below w.heap.size w w7 := B6.trans (hb7.mono (by omega))
  have z7 := hb7.size
  replace f_c1 := f_c1.below hb7 (by omega)
  replace f_s0 := f_s0.below hb7 (by omega)
  replace f_c2 := f_c2.below hb7 (by omega)
  replace f_g0 := f_g0.below hb7 (by omega)
  replace f_c3 := f_c3.below hb7 (by omega)
  go_wp2_with fail
  refine (markInt64SS_any _ _ _ (r) (1) _ (by omega) (by omega) (by omega) (by omega) f_c2).mono ?_
  rintro e w8 ⟨rfl, f_c2, hb8⟩
  have B8 : Below w.heap.size w w8 := B7.trans ((hb8.below (Nat.le_refl _) (by omega)).mono (by omega))
  have z8 := hb8.size
  replace f_c1 := f_c1.mod hb8 (by omega)
  replace f_s0 := f_s0.mod hb8 (by omega)
  replace f_g0 := f_g0.mod hb8 (by omega)
  replace f_c3 := f_c3.mod hb8 (by omega)
  have k0 : ¬ (1 + (total (r) : Int) < 0) := by omega
  have k1 : decide (1 + (total (r) : Int) < 0) = false := by simpa using k0
  go_wp2_with fail
  refine (eqInt64S_any _ _ (fbOut n r) (fbOut n r) _ (by omega) f_g0.rd f_s0.rd).mono ?_
  rintro e w9 ⟨rfl, hb9⟩
  have B9 : Below w.heap.size w w9 := B8.trans (hb9.mono (by omega))
  have z9 := hb9.size
  replace f_c1 := f_c1.below hb9 (by omega)
  replace f_s0 := f_s0.below hb9 (by omega)
  replace f_c2 := f_c2.below hb9 (by omega)
  replace f_g0 := f_g0.below hb9 (by omega)
  replace f_c3 := f_c3.below hb9 (by omega)
  go_wp2_with fail
  refine (markInt64S_any _ _ _ (fbOut n r) (1) _ (by omega) (by omega) (by omega) f_g0).mono ?_
  rintro e w10 ⟨rfl, f_g0, hb10⟩
  have B10 : Below w.heap.size w w10 := B9.trans ((hb10.below (Nat.le_refl _) (by omega)).mono (by omega))
  have z10 := hb10.size
  replace f_c1 := f_c1.mod hb10 (by omega)
  replace f_s0 := f_s0.mod hb10 (by omega)
  replace f_c2 := f_c2.mod hb10 (by omega)
  replace f_c3 := f_c3.mod hb10 (by omega)
  have k2 : ¬ (1 + ((fbOut n r).length : Int) < 0) := by omega
  go_wp2_with fail
  refine (heldInt64S_any _ (1) (fbOut n r).length _ (by omega) (by omega) (by omega) f_g0.rd).mono ?_
  rintro e w' ⟨rfl, rfl⟩
  go_wp2_with fail
  refine (toInt64SS_any _ r _ (by omega) (fun i hi => by have := row_le r i hi; omega) (rr.below B10)).mono ?_
  rintro e w11 ⟨c4, rfl, f_c4, hb11⟩
  have B11 : Below w.heap.size w w11 := B10.trans (hb11.mono (by omega))
  have z11 := hb11.size
  replace f_c1 := f_c1.below hb11 (by omega)
  replace f_s0 := f_s0.below hb11 (by omega)
  replace f_c2 := f_c2.below hb11 (by omega)
  replace f_g0 := f_g0.below hb11 (by omega)
  replace f_c3 := f_c3.below hb11 (by omega)
  replace f_c4 := f_c4.inn
  go_wp2_with fail
  refine (FromBlocks_any n _ r _ hn64.out (by omega) f_c4.rd).mono ?_
  rintro e w12 ⟨h0, rfl, f_h0, hb12⟩
  have B12 : Below w.heap.size w w12 := B11.trans (hb12.mono (by omega))
  have z12 := hb12.size
  replace f_c1 := f_c1.below hb12 (by omega)
  replace f_s0 := f_s0.below hb12 (by omega)
  replace f_c2 := f_c2.below hb12 (by omega)
  replace f_g0 := f_g0.below hb12 (by omega)
  replace f_c3 := f_c3.below hb12 (by omega)
  replace f_c4 := f_c4.below hb12 (by omega)
  replace f_h0 := f_h0.inn
  go_wp2_with fail
  refine (eqInt64S_any _ _ (fbOut n r) (fbOut n r) _ (by omega) f_h0.rd f_s0.rd).mono ?_
  rintro e w13 ⟨rfl, hb13⟩
  have B13 : Below w.heap.size w w13 := B12.trans (hb13.mono (by omega))
  have z13 := hb13.size
  replace f_c1 := f_c1.below hb13 (by omega)
  replace f_s0 := f_s0.below hb13 (by omega)
  replace f_c2 := f_c2.below hb13 (by omega)
  replace f_g0 := f_g0.below hb13 (by omega)
  replace f_c3 := f_c3.below hb13 (by omega)
  replace f_c4 := f_c4.below hb13 (by omega)
  replace f_h0 := f_h0.below hb13 (by omega)
  go_wp2_with fail
  refine (heldInt64S_any _ (1) (fbOut n r).length _ (by omega) (by omega) (by omega) f_g0.rd).mono ?_
  rintro e w' ⟨rfl, rfl⟩
  go_wp2_with fail
  go_ret
  exact ⟨rfl, B13⟩
theorem own : ownKnob Try.prog.godebug = none := by kernel_rfl
theorem laidOut : laidOutB Try.prog = true := by kernel_rfl
set_option maxRecDepth 100000 in
theorem lifted (os : Os) (started : os.Started) (H : Type) (enc : TypeId × Value → H) :
    ReturnsInHanded {} Try.checked os 6 .any (Rows.fnExactFromBlocksSpec.pre6 enc Try.prog Try.f6 Rows.fnExactFromBlocksRow.domain false) (Rows.fnExactFromBlocksSpec.post enc Try.prog Try.f6 false true false false) := by
  refine returnsInHanded_of_change (C := Try.checked) own started (by kernel_rfl) Try.func6
    (ChangeSpec.witness6 (enc := enc) (C := Try.checked) false ⟨#[], #[.int .i64 0, .slice none 0 0], []⟩ 8 (by kernel_rfl) (by kernel_rfl) (by kernel_rfl) (by kernel_rfl)) ?_
  intro W base args ds gs before hval0 hW hcnd _
  have hval : ∀ (j : Nat) t v, Try.f6.params[j]? = some t → args[j]? = some v → Value.okWide Try.prog W .any base t v := hval0
  have hW' := hW
  obtain ⟨p, q, hA0, hV, rfl, hfz, hnd⟩ := hW
  have hA : DataW.TrodAll enc Try.prog W 0 (fun _ => true) true Try.f6.params.toList args.toList ds p := hA0
  rw [Try.params6] at hA hval
  obtain ⟨v0, vs0, d0, ds0, p0, q0, hargs, rfl, rfl, h0, r0⟩ := trodAll_cons hA
  obtain ⟨v1, vs1, d1, ds1, p1, q1, rfl, rfl, rfl, h1, r1⟩ := trodAll_cons r0
  obtain ⟨rfl, rfl, rfl⟩ := trodAll_nil r1
  obtain rfl : args = #[v0, v1] := by cases args; simp_all
  obtain ⟨rfl, rfl⟩ := trodVars_none hV
  obtain ⟨a0, rfl, rfl, rfl, w0⟩ := open_int Try.underlying2 (hval 0 2 v0 rfl rfl) h0
  have k1 := h1
  have lt1 : ∀ x ∈ p1, x.block < W.heap.size := by obtain ⟨m, hm⟩ := k1; exact DataW.trod_lt m _ _ _ hm
  obtain ⟨z1, w1⟩ := openII (hval 1 44 v1 rfl rfl) h1 lt1
  clear hA0 hval0
  refine (walk a0 v1 z1 W w0 w1).mono fun e W' ⟨he, bel⟩ => ?_
  subst he
  exact ⟨_, rfl, _, _, _, [], _, [], hW', trodAll_mk1 (shut_bool Try.underlying4 _), (trodAll_cons_mk (shut_int Try.underlying2 w0) (trodAll_cons_mk (Below.trod laidOut (by kernel_rfl) (of_decide_eq_true (by kernel_rfl)) k1 bel lt1) trodAll_mk0)), rfl, bel.frame _, fun h => by cases h⟩
theorem over : Rows.fnExactFromBlocksRow.holds Try.pinned (OpenSpec.ofChange Rows.fnExactFromBlocksSpec) :=
  OpenClaim.holds_of_wide 6 Try.f6 rfl rfl rfl rfl rfl rfl rfl ⟨rfl, rfl, rfl, rfl, rfl⟩ rfl rfl rfl rfl rfl (by kernel_rfl) Try.func6 (by kernel_rfl)
    (of_decide_eq_true (by kernel_rfl)) (by unfold Func.isWrapper; first | (rw [if_pos (by decide +kernel)]; kernel_rfl) | (rw [if_neg (by decide +kernel)]; exact ⟨rfl, rfl⟩))
    (fun os started H enc _ => lifted os started H enc)
theorem proved : Rows.FnExactFromBlocksSaid := over
end Go.Proofs.Ytapmnfmobigdkaa.fnExactFromBlocks
