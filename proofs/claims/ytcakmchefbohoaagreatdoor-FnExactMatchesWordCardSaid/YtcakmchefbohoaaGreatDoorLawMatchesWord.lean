/- FnExactMatchesWord: the program and the reference answer alike, for every regular expression and every list of labels. The tables and errors are tied to the text of the program. -/
import Derived.Test.YtcakmchefbohoaaGreatDoorRows
import Derived.Test.YtcakmchefbohoaaGreatDoorCards
import Derived.Test.YtcakmchefbohoaaGreatDoorTie
import Derived.LaidMore
import Derived.MakeChecks
import Derived.Deep.DeepHandedRow
import Derived.Lib.LaidTab
import Derived.WalkSmall
import Derived.ChangeVars
import Derived.SevenTiedAt
import Derived.Stop.LaidErr
import Derived.Test.YtcakmchefbohoaaGreatDoorOpenI
import Derived.Test.YtcakmchefbohoaaGreatDoorHelpI
import Derived.Test.YtcakmchefbohoaaGreatDoorEnv
import Derived.Test.YtcakmchefbohoaaGreatDoorRLab
import Derived.Test.YtcakmchefbohoaaGreatDoorReg
import Derived.Test.YtcakmchefbohoaaGreatDoorRegW
import Derived.Test.YtcakmchefbohoaaGreatDoorVReg
import Derived.Test.YtcakmchefbohoaaGreatDoorTreeR
import Derived.Test.YtcakmchefbohoaaGreatDoorDec
import Derived.Test.YtcakmchefbohoaaGreatDoorOpenG
import Derived.Test.YtcakmchefbohoaaGreatDoorEmp
import Derived.Test.YtcakmchefbohoaaGreatDoorConc
import Derived.Test.YtcakmchefbohoaaGreatDoorMwP
import Derived.Test.YtcakmchefbohoaaGreatDoorMwQ
import Derived.Test.YtcakmchefbohoaaGreatDoorMwL
import Derived.Test.YtcakmchefbohoaaGreatDoorMwG
import Derived.Test.YtcakmchefbohoaaGreatDoorMwZ
import Derived.Test.YtcakmchefbohoaaGreatDoorHanded
import Derived.WalkKit
import Derived.ProofKit
import Derived.OpenShut
import Derived.ShutString
import Derived.ChangeOld
import Derived.Below
set_option linter.unusedVariables false
set_option linter.unusedSimpArgs false
namespace Go.Proofs.YtcakmchefbohoaaGreatDoor.fnExactMatchesWord
open Go.ChangeShapes Go.WideShapes Go.ChangeAt Go.RowKit
open Go.ChangeMaps (open_string shut_string)

theorem tabs {W : World} (h : laidMet Tryz.prog Rows.fnExactMatchesWordRow.laid W) (hS : W.ShapedOpen Tryz.prog) : Env W := ⟨⟨pow_tab (laidMet_tail (laidMet_tail h)), err_syn (laidMet_tail (laidMet_tail (laidMet_tail (laidMet_tail (laidMet_tail h))))), err_ran (laidMet_tail (laidMet_tail (laidMet_tail (laidMet_tail h))))⟩, max_shaped hS⟩
set_option maxHeartbeats 2000000 in
theorem walk (v0 : Value) (r : List Rg) (v1 : Value) (labels : List ByteArray) (w : World) (hr : RdRg w v0 r ∧ RgsOk r) (hlabels : RdS w v1 labels ∧ Small labels) (hL : laidMet Tryz.prog Rows.fnExactMatchesWordRow.laid w) (hS : w.ShapedOpen Tryz.prog) : Calls Tryz.prog 5 #[v0, v1] w fun e w' => e = .returned (.bool true) ∧ Below w.heap.size w w' := by
  have r64 := Lib.hid hr.2
  have rr := hr.1
  clear hr
  have labels64 := Lib.hid hlabels.2
  have rlabels := hlabels.1
  clear hlabels
  go_enter Tryz.func5, Tryz.ntmps5
  by_cases hlr : totRg r ≤ 1048576
  case neg =>
    go_wp2_with fail
    refine (szRegS_any _ r 1048576 _ (by omega) (by omega) r64.out rr).mono ?_
    rw [show szRg r 1048576 = -1 by unfold szRg; rw [if_neg (by omega)]]
    rintro e w1 ⟨rfl, hb1⟩
    go_wp2_with fail
    go_ret
    exact ⟨rfl, hb1⟩
  go_wp2_with fail
  refine (szRegS_any _ r 1048576 _ (by omega) (by omega) r64.out rr).mono ?_
  rw [show szRg r 1048576 = 1048576 - (totRg r : Nat) by unfold szRg; rw [if_pos (by omega)]]
  rintro e w1 ⟨rfl, hb1⟩
  have B1 : Below w.heap.size w w1 := hb1
  have z1 := hb1.size
  have hnr : ¬ ((1048576 : Int) - (totRg r : Nat) < 0) := by omega
  have hlenr : r.length ≤ 1048576 := by have h := hlr; unfold totRg at h; omega
  have hlabr := Lib.hid (fun i hi => Nat.le_trans (lab_leRg r i hi) hlr)
  by_cases hllabels : totRg r + totSt labels ≤ 1048576
  case neg =>
    go_wp2_with fail
    refine (szStringSR_any _ labels (1048576 - (totRg r : Nat)) _ (by omega) (by omega) labels64.out (rlabels.below B1)).mono ?_
    rw [show szSt labels (1048576 - (totRg r : Nat)) = -1 by unfold szSt; rw [if_neg (by omega)]]
    rintro e w2 ⟨rfl, hb2⟩
    go_wp2_with fail
    go_ret
    exact ⟨rfl, B1.trans (hb2.mono (by omega))⟩
  go_wp2_with fail
  refine (szStringSR_any _ labels (1048576 - (totRg r : Nat)) _ (by omega) (by omega) labels64.out (rlabels.below B1)).mono ?_
  rw [show szSt labels (1048576 - (totRg r : Nat)) = 1048576 - (totRg r : Nat) - (totSt labels : Nat) by unfold szSt; rw [if_pos (by omega)] <;> omega]
  rintro e w2 ⟨rfl, hb2⟩
  have B2 : Below w.heap.size w w2 := B1.trans (hb2.mono (by omega))
  have z2 := hb2.size
  have hnlabels : ¬ (1048576 - (totRg r : Nat) - (totSt labels : Nat) < 0) := by omega
  have hlenlabels : labels.length ≤ 1048576 := by have h := hllabels; unfold totSt at h; omega
  have hlablabels := Lib.hid (fun i hi => Nat.le_trans (lab_leSt labels i hi) (by omega : totSt labels ≤ 1048576))
  have hT := Lib.hid (tabs hL hS)
  clear hL hS
  go_wp2_with fail
  refine (toRegS_any _ r _ (by omega) (rr.below B2)).mono ?_
  rintro e w3 ⟨c1, rfl, f_c1, hb3⟩
  have B3 : Below w.heap.size w w3 := B2.trans (hb3.mono (by omega))
  have z3 := hb3.size
  replace f_c1 := f_c1.inn
  go_wp2_with fail
  refine (toStringSR_any _ labels _ (by omega) (rlabels.below B3)).mono ?_
  rintro e w4 ⟨c2, rfl, f_c2, hb4⟩
  have B4 : Below w.heap.size w w4 := B3.trans (hb4.mono (by omega))
  have z4 := hb4.size
  replace f_c1 := f_c1.below hb4 (by omega)
  replace f_c2 := f_c2.inn
  go_wp2_with fail
  refine (spec_MatchesWord_any _ _ r labels _ hlenr hlabr.out hlenlabels hlablabels.out f_c1.rd f_c2.rd).mono ?_
  rintro e w5 ⟨rfl, hb5⟩
  have B5 : Below w.heap.size w w5 := B4.trans (hb5.mono (by omega))
  have z5 := hb5.size
  replace f_c1 := f_c1.below hb5 (by omega)
  replace f_c2 := f_c2.below hb5 (by omega)
  go_wp2_with fail
  refine (toRegS_any _ r _ (by omega) (rr.below B5)).mono ?_
  rintro e w6 ⟨c3, rfl, f_c3, hb6⟩
  have B6 : Below w.heap.size w w6 := B5.trans (hb6.mono (by omega))
  have z6 := hb6.size
  replace f_c1 := f_c1.below hb6 (by omega)
  replace f_c2 := f_c2.below hb6 (by omega)
  replace f_c3 := f_c3.inn
  go_wp2_with fail
  refine (toStringSR_any _ labels _ (by omega) (rlabels.below B6)).mono ?_
  rintro e w7 ⟨c4, rfl, f_c4, hb7⟩
  have B7 : Below w.heap.size w w7 := B6.trans (hb7.mono (by omega))
  have z7 := hb7.size
  replace f_c1 := f_c1.below hb7 (by omega)
  replace f_c2 := f_c2.below hb7 (by omega)
  replace f_c3 := f_c3.below hb7 (by omega)
  replace f_c4 := f_c4.inn
  go_wp2_with fail
  refine (MatchesWord_any _ _ r labels _ hlenr hlabr.out hlenlabels hlablabels.out (hT.out.below B7) f_c3.rd f_c4.rd).mono ?_
  rintro e w8 ⟨rfl, hb8⟩
  have B8 : Below w.heap.size w w8 := B7.trans (hb8.mono (by omega))
  have z8 := hb8.size
  replace f_c1 := f_c1.below hb8 (by omega)
  replace f_c2 := f_c2.below hb8 (by omega)
  replace f_c3 := f_c3.below hb8 (by omega)
  replace f_c4 := f_c4.below hb8 (by omega)
  go_wp2_with fail
  refine (toRegS_any _ r _ (by omega) (rr.below B8)).mono ?_
  rintro e w9 ⟨c5, rfl, f_c5, hb9⟩
  have B9 : Below w.heap.size w w9 := B8.trans (hb9.mono (by omega))
  have z9 := hb9.size
  replace f_c1 := f_c1.below hb9 (by omega)
  replace f_c2 := f_c2.below hb9 (by omega)
  replace f_c3 := f_c3.below hb9 (by omega)
  replace f_c4 := f_c4.below hb9 (by omega)
  replace f_c5 := f_c5.inn
  go_wp2_with fail
  refine (eqRegS_any _ _ (r) (r) _ (by omega) f_c3.rd f_c5.rd).mono ?_
  rintro e w10 ⟨rfl, hb10⟩
  have B10 : Below w.heap.size w w10 := B9.trans (hb10.mono (by omega))
  have z10 := hb10.size
  replace f_c1 := f_c1.below hb10 (by omega)
  replace f_c2 := f_c2.below hb10 (by omega)
  replace f_c3 := f_c3.below hb10 (by omega)
  replace f_c4 := f_c4.below hb10 (by omega)
  replace f_c5 := f_c5.below hb10 (by omega)
  go_wp2_with fail
  refine (toStringSR_any _ labels _ (by omega) (rlabels.below B10)).mono ?_
  rintro e w11 ⟨c6, rfl, f_c6, hb11⟩
  have B11 : Below w.heap.size w w11 := B10.trans (hb11.mono (by omega))
  have z11 := hb11.size
  replace f_c1 := f_c1.below hb11 (by omega)
  replace f_c2 := f_c2.below hb11 (by omega)
  replace f_c3 := f_c3.below hb11 (by omega)
  replace f_c4 := f_c4.below hb11 (by omega)
  replace f_c5 := f_c5.below hb11 (by omega)
  replace f_c6 := f_c6.inn
  go_wp2_with fail
  refine (eqStringSR_any _ _ (labels) _ f_c4.rd f_c6.rd).mono ?_
  rintro e w12 ⟨rfl, hb12⟩
  have B12 : Below w.heap.size w w12 := B11.trans (hb12.mono (by omega))
  have z12 := hb12.size
  replace f_c1 := f_c1.below hb12 (by omega)
  replace f_c2 := f_c2.below hb12 (by omega)
  replace f_c3 := f_c3.below hb12 (by omega)
  replace f_c4 := f_c4.below hb12 (by omega)
  replace f_c5 := f_c5.below hb12 (by omega)
  replace f_c6 := f_c6.below hb12 (by omega)
  go_wp2_with fail
  go_ret
  exact ⟨rfl, B12⟩
theorem own : ownKnob Tryz.prog.godebug = none := by kernel_rfl
theorem laidOut : laidOutB Tryz.prog = true := by kernel_rfl
set_option maxRecDepth 100000 in
theorem lifted (os : Os) (started : os.Started) (H : Type) (enc : TypeId × Value → H) :
    ReturnsInHanded {} Tryz.checked os 5 .any (fun w args => (Rows.fnExactMatchesWordSpec.pre enc Tryz.prog Tryz.f5 [] false w args ∧ laidMetH Tryz.prog Rows.fnExactMatchesWordRow.laid w) ∧ sizedMet enc Tryz.prog Tryz.f5 (OpenSpec.ofChange Rows.fnExactMatchesWordSpec) false w args)
      (Rows.fnExactMatchesWordSpec.post enc Tryz.prog Tryz.f5 false true false false) := by
  refine handed_shaped (C := Tryz.checked) (X := fun w _ => laidMetH Tryz.prog Rows.fnExactMatchesWordRow.laid w) own started (by kernel_rfl) Tryz.func5 (fun _ _ _ hh h => h.of_heap hh)
    (ChangeSpec.witness_shaped (enc := enc) (C := Tryz.checked) (os := os) (X := fun w _ => laidMetH Tryz.prog Rows.fnExactMatchesWordRow.laid w) false (World.laidAll Tryz.prog os Rows.fnExactMatchesWordRow.laid) #[.slice none 0 0, .slice none 0 0] 8 (World.laidAll_os _ _ _) (World.shaped_of_ZipB (by kernel_rfl) (by kernel_rfl)) (by kernel_rfl) (by kernel_rfl) (by kernel_rfl) (by rw [MakeChecks.laidMetH_plain _ _ _ (by kernel_rfl)]; exact laidMet_laidAll _ (by kernel_rfl) (by kernel_rfl))) ?_
  intro W base args ds gs before hval0 hW hL hS
  rw [MakeChecks.laidMetH_plain _ _ _ (by kernel_rfl)] at hL
  have hval : ∀ (j : Nat) t v, Tryz.f5.params[j]? = some t → args[j]? = some v → Value.okWide Tryz.prog W .any base t v := hval0
  have hW' := hW
  obtain ⟨p, q, hA0, hV, rfl, hfz, hnd⟩ := hW
  have hA : DataW.TrodAll enc Tryz.prog W 0 (fun _ => true) true Tryz.f5.params.toList args.toList ds p := hA0
  rw [Tryz.params5] at hA hval
  obtain ⟨v0, vs0, d0, ds0, p0, q0, hargs, rfl, rfl, h0, r0⟩ := trodAll_cons hA
  obtain ⟨v1, vs1, d1, ds1, p1, q1, rfl, rfl, rfl, h1, r1⟩ := trodAll_cons r0
  obtain ⟨rfl, rfl, rfl⟩ := trodAll_nil r1
  obtain rfl : args = #[v0, v1] := by cases args; simp_all
  obtain ⟨rfl, rfl⟩ := trodVars_none hV
  have k0 := h0
  have lt0 : ∀ x ∈ p0, x.block < W.heap.size := by obtain ⟨m, hm⟩ := k0; exact DataW.trod_lt m _ _ _ hm
  obtain ⟨z0, w0⟩ := openReg (hval 0 22 v0 rfl rfl) h0 lt0
  have k1 := h1
  have lt1 : ∀ x ∈ p1, x.block < W.heap.size := by obtain ⟨m, hm⟩ := k1; exact DataW.trod_lt m _ _ _ hm
  obtain ⟨z1, w1⟩ := openS (hval 1 37 v1 rfl rfl) h1 lt1
  clear hA0 hval0
  refine (walk v0 z0 v1 z1 W w0 w1 hL hS).mono fun e W' ⟨he, bel⟩ => ?_
  subst he
  exact ⟨_, rfl, _, _, _, [], _, [], hW', trodAll_mk1 (shut_bool Tryz.underlying4 _), (trodAll_cons_mk (Below.trod laidOut (by kernel_rfl) (of_decide_eq_true (by kernel_rfl)) k0 bel lt0) (trodAll_cons_mk (Below.trod laidOut (by kernel_rfl) (of_decide_eq_true (by kernel_rfl)) k1 bel lt1) trodAll_mk0)), rfl, bel.frame _, fun h => by cases h⟩
theorem g0 : Rows.fnExactMatchesWordRow.wf (OpenSpec.ofChange Rows.fnExactMatchesWordSpec) = true := by kernel_rfl
theorem g1 : laidOutB Tryz.prog = true := by kernel_rfl
theorem g2 : mapsRowed Tryz.prog = true := by kernel_rfl
theorem g10 : (Rows.fnExactMatchesWordRow.inPlace == Tryz.prog.inPlace 5) = true := by kernel_rfl
theorem g11 : (Rows.fnExactMatchesWordRow.unfollowed == Tryz.prog.unfollowed 5) = true := by kernel_rfl
theorem g12 : (Rows.fnExactMatchesWordRow.recurses == Tryz.prog.recurses 5) = true := by kernel_rfl
theorem g13 : (Rows.fnExactMatchesWordRow.named == Tryz.prog.varsNamed 5) = true := by kernel_rfl
theorem facts : joinedFacts Tryz.pinned.checked.prog 5 Tryz.f5 Rows.fnExactMatchesWordSpec Rows.fnExactMatchesWordRow = true := by
  show joinedFacts Tryz.prog 5 Tryz.f5 Rows.fnExactMatchesWordSpec Rows.fnExactMatchesWordRow = true
  unfold joinedFacts
  rw [g0, g1, g2, g10, g11, g12, g13]
  kernel_rfl
theorem said : Rows.fnExactMatchesWordRow.holds Tryz.pinned (OpenSpec.ofChange Rows.fnExactMatchesWordSpec) :=
  OpenClaim.holds_of_wide 5 Tryz.f5 rfl rfl rfl rfl rfl rfl rfl ⟨rfl, rfl, rfl, rfl, rfl⟩ rfl rfl rfl rfl rfl (by kernel_rfl) Tryz.func5 facts
    (of_decide_eq_true (by kernel_rfl)) (by unfold Func.isWrapper; first | (rw [if_pos (by decide +kernel)]; kernel_rfl) | (rw [if_neg (by decide +kernel)]; exact ⟨rfl, rfl⟩))
    (fun os started H enc _ => lifted os started H enc)
theorem plain (f : FuncId) (fn : Func) (hf : Tryz.pinned.checked.prog.funcNamed Rows.fnExactMatchesWordRow.func = some f) (hfn : Tryz.pinned.checked.prog.funcs[f]? = some fn) :
    true = Tryz.pinned.checked.prog.looks [] ∧ ∀ (j : Nat) t, fn.params[j]? = some t → Tryz.pinned.checked.prog.wantsStandIn t = false := by
  obtain rfl : f = 5 := Option.some.inj ((show Tryz.prog.funcNamed Rows.fnExactMatchesWordRow.func = some 5 by kernel_rfl).symm.trans hf) |>.symm
  obtain rfl : fn = Tryz.f5 := (Option.some.inj (Tryz.func5.symm.trans hfn)).symm
  refine ⟨by kernel_rfl, fun j t ht => ?_⟩
  rw [Tryz.params5] at ht
  have hm : t ∈ [22, 37] := by simpa using Array.mem_of_getElem? ht
  have hall : ([22, 37].all fun u => !Tryz.prog.wantsStandIn u) = true := by kernel_rfl
  exact (show Tryz.prog.wantsStandIn t = false by simpa using List.all_eq_true.1 hall t hm)
theorem card : Rows.FnExactMatchesWordCardSaid :=
  Claim7.holds_tied_plain_at .later [] _ _ _ _ said (fun _ h => by cases h) (by kernel_rfl) (fun _ h => by cases h) fnExactMatchesWord_row_tie rfl ⟨rfl, rfl⟩ (by kernel_rfl) rfl plain (by kernel_rfl)
end Go.Proofs.YtcakmchefbohoaaGreatDoor.fnExactMatchesWord
