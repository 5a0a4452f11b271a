/- FnExactSplitWords: the program and the reference cut one list of words out of a text, for every text. No condition. -/
import Derived.Test.YtapmnfmobigdkaaRows
import Derived.Test.YtapmnfmobigdkaaOpenI
import Derived.Test.YtapmnfmobigdkaaHelpI
import Derived.Test.YtapmnfmobigdkaaWords
import Derived.WalkKit
import Derived.ProofKit
import Derived.OpenShut
import Derived.ShutString
import Derived.ChangeOld
import Derived.Below
set_option linter.unusedVariables false
set_option linter.unusedSimpArgs false
namespace Go.Proofs.Ytapmnfmobigdkaa.fnExactSplitWords
open Go.ChangeShapes Go.WideShapes Go.ChangeAt Go.RowKit
open Go.ChangeMaps (open_string shut_string)

set_option maxHeartbeats 2000000 in
theorem walk (s : ByteArray) (w : World) (hs : s.size ≤ maxLen) : Calls Try.prog 3 #[.string s] w fun e w' => e = .returned (.bool true) ∧ Below w.heap.size w w' := by
  unfold maxLen at hs
  by_cases hls : s.size ≤ 1048576
  case neg =>
    have hd : (1048576 : Int) < s.size := by omega
    go_enter Try.func3, Try.ntmps3
    go_wp2
    go_ret
    exact ⟨rfl, Below.refl _ _⟩
  have hds : ¬ (1048576 : Int) < s.size := by omega
  have hwl := wordsF_len s
  go_enter Try.func3, Try.ntmps3
  go_wp2_with fail
  refine (spec_SplitWords_any s _ hls).mono ?_
  rintro e w1 ⟨s0, rfl, f_s0, hb1⟩
  have B1 : Below w.heap.size w w1 := (Below.refl _ _).trans (hb1.mono (by omega))
  have z1 := hb1.size
  replace f_s0 := f_s0.inn
  go_wp2_with fail
  refine (SplitWords_any s _ hls).mono ?_
  rintro e w2 ⟨g0, rfl, f_g0, hb2⟩
  have B2 : Below w.heap.size w w2 := B1.trans (hb2.mono (by omega))
  have z2 := hb2.size
  replace f_s0 := f_s0.below hb2 (by omega)
  replace f_g0 := f_g0.inn
  go_wp2_with fail
  refine (eqStringS_any _ _ (wordsF s) _ f_g0.rd f_s0.rd).mono ?_
  rintro e w3 ⟨rfl, hb3⟩
  have B3 : Below w.heap.size w w3 := B2.trans (hb3.mono (by omega))
  have z3 := hb3.size
  replace f_s0 := f_s0.below hb3 (by omega)
  replace f_g0 := f_g0.below hb3 (by omega)
  go_wp2_with fail
  refine (markStringS_any _ _ _ (wordsF s) (1) _ (by omega) (by omega) (by omega) f_g0).mono ?_
  rintro e w4 ⟨rfl, f_g0, hb4⟩
  have B4 : Below w.heap.size w w4 := B3.trans ((hb4.below (Nat.le_refl _) (by omega)).mono (by omega))
  have z4 := hb4.size
  replace f_s0 := f_s0.mod hb4 (by omega)
  have k2 : ¬ (1 + ((wordsF s).length : Int) < 0) := by omega
  go_wp2_with fail
  refine (heldStringS_any _ (1) (wordsF s).length _ (by omega) (by omega) (by omega) f_g0.rd).mono ?_
  rintro e w5 ⟨rfl, hb5⟩
  have B5 : Below w.heap.size w w5 := B4.trans (hb5.mono (by omega))
  have z5 := hb5.size
  replace f_s0 := f_s0.below hb5 (by omega)
  replace f_g0 := f_g0.below hb5 (by omega)
  go_wp2_with fail
  refine (SplitWords_any s _ hls).mono ?_
  rintro e w6 ⟨h0, rfl, f_h0, hb6⟩
  have B6 : Below w.heap.size w w6 := B5.trans (hb6.mono (by omega))
  have z6 := hb6.size
  replace f_s0 := f_s0.below hb6 (by omega)
  replace f_g0 := f_g0.below hb6 (by omega)
  replace f_h0 := f_h0.inn
  go_wp2_with fail
  refine (eqStringS_any _ _ (wordsF s) _ f_h0.rd f_s0.rd).mono ?_
  rintro e w7 ⟨rfl, hb7⟩
  have B7 : Below w.heap.size w w7 := B6.trans (hb7.mono (by omega))
  have z7 := hb7.size
  replace f_s0 := f_s0.below hb7 (by omega)
  replace f_g0 := f_g0.below hb7 (by omega)
  replace f_h0 := f_h0.below hb7 (by omega)
  go_wp2_with fail
  refine (heldStringS_any _ (1) (wordsF s).length _ (by omega) (by omega) (by omega) f_g0.rd).mono ?_
  rintro e w8 ⟨rfl, hb8⟩
  have B8 : Below w.heap.size w w8 := B7.trans (hb8.mono (by omega))
  have z8 := hb8.size
  replace f_s0 := f_s0.below hb8 (by omega)
  replace f_g0 := f_g0.below hb8 (by omega)
  replace f_h0 := f_h0.below hb8 (by omega)
  go_wp2_with fail
  go_ret
  exact ⟨rfl, B8⟩
theorem own : ownKnob Try.prog.godebug = none := by kernel_rfl
theorem laidOut : laidOutB Try.prog = true := by kernel_rfl
set_option maxRecDepth 100000 in
theorem lifted (os : Os) (started : os.Started) (H : Type) (enc : TypeId × Value → H) :
    ReturnsInHanded {} Try.checked os 3 .any (Rows.fnExactSplitWordsSpec.pre6 enc Try.prog Try.f3 Rows.fnExactSplitWordsRow.domain false) (Rows.fnExactSplitWordsSpec.post enc Try.prog Try.f3 false true false false) := by
  refine returnsInHanded_of_change (C := Try.checked) own started (by kernel_rfl) Try.func3
    (ChangeSpec.witness6 (enc := enc) (C := Try.checked) false ⟨#[], #[.string ByteArray.empty], []⟩ 8 (by kernel_rfl) (by kernel_rfl) (by kernel_rfl) (by kernel_rfl)) ?_
  intro W base args ds gs before hval0 hW hcnd _
  have hval : ∀ (j : Nat) t v, Try.f3.params[j]? = some t → args[j]? = some v → Value.okWide Try.prog W .any base t v := hval0
  have hW' := hW
  obtain ⟨p, q, hA0, hV, rfl, hfz, hnd⟩ := hW
  have hA : DataW.TrodAll enc Try.prog W 0 (fun _ => true) true Try.f3.params.toList args.toList ds p := hA0
  rw [Try.params3] at hA hval
  obtain ⟨v0, vs0, d0, ds0, p0, q0, hargs, rfl, rfl, h0, r0⟩ := trodAll_cons hA
  obtain ⟨rfl, rfl, rfl⟩ := trodAll_nil r0
  obtain rfl : args = #[v0] := by cases args; simp_all
  obtain ⟨rfl, rfl⟩ := trodVars_none hV
  obtain ⟨a0, rfl, rfl, rfl, w0⟩ := open_string Try.underlying9 (hval 0 9 v0 rfl rfl) h0
  clear hA0 hval0
  refine (walk a0 W w0).mono fun e W' ⟨he, bel⟩ => ?_
  subst he
  exact ⟨_, rfl, _, _, _, [], _, [], hW', trodAll_mk1 (shut_bool Try.underlying4 _), (trodAll_cons_mk (shut_string Try.underlying9 w0) trodAll_mk0), rfl, bel.frame _, fun h => by cases h⟩
theorem over : Rows.fnExactSplitWordsRow.holds Try.pinned (OpenSpec.ofChange Rows.fnExactSplitWordsSpec) :=
  OpenClaim.holds_of_wide 3 Try.f3 rfl rfl rfl rfl rfl rfl rfl ⟨rfl, rfl, rfl, rfl, rfl⟩ rfl rfl rfl rfl rfl (by kernel_rfl) Try.func3 (by kernel_rfl)
    (of_decide_eq_true (by kernel_rfl)) (by unfold Func.isWrapper; first | (rw [if_pos (by decide +kernel)]; kernel_rfl) | (rw [if_neg (by decide +kernel)]; exact ⟨rfl, rfl⟩))
    (fun os started H enc _ => lifted os started H enc)
theorem proved : Rows.FnExactSplitWordsSaid := over
end Go.Proofs.Ytapmnfmobigdkaa.fnExactSplitWords
