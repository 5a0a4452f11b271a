/- FnExactTokensOf: the program and the reference cut one list of tokens out of a text, for every text. The tables and errors are tied to the text of the program. -/
import Derived.Test.YtcakmchefbohoaaDoorRows
import Derived.Test.YtcakmchefbohoaaDoorCards
import Derived.Test.YtcakmchefbohoaaDoorTie
import Derived.LaidMore
import Derived.MakeChecks
import Derived.Deep.DeepHandedRow
import Derived.Lib.LaidTab
import Derived.WalkSmall
import Derived.ChangeVars
import Derived.SevenTiedAt
import Derived.Stop.LaidErr
import Derived.Test.YtcakmchefbohoaaDoorOpenI
import Derived.Test.YtcakmchefbohoaaDoorHelpI
import Derived.Test.YtcakmchefbohoaaDoorWords
import Derived.Test.YtcakmchefbohoaaDoorOper
import Derived.Test.YtcakmchefbohoaaDoorEnv
import Derived.Test.YtcakmchefbohoaaDoorTok
import Derived.Test.YtcakmchefbohoaaDoorTokU
import Derived.Test.YtcakmchefbohoaaDoorTokV
import Derived.Test.YtcakmchefbohoaaDoorTokS
import Derived.Test.YtcakmchefbohoaaDoorTokI
import Derived.Test.YtcakmchefbohoaaDoorTokJ
import Derived.WalkKit
import Derived.ProofKit
import Derived.OpenShut
import Derived.ShutString
import Derived.ChangeOld
import Derived.Below
set_option linter.unusedVariables false
set_option linter.unusedSimpArgs false
namespace Go.Proofs.YtcakmchefbohoaaDoor.fnExactTokensOf
open Go.ChangeShapes Go.WideShapes Go.ChangeAt Go.RowKit
open Go.ChangeMaps (open_string shut_string)

theorem tabs {W : World} (h : laidMet Tryd.prog Rows.fnExactTokensOfRow.laid W) : Env3 W ∧ TextTab W := ⟨⟨pow_tab (laidMet_tail (laidMet_tail h)), err_syn (laidMet_tail (laidMet_tail (laidMet_tail (laidMet_tail h)))), err_ran (laidMet_tail (laidMet_tail (laidMet_tail h)))⟩, text_tab (laidMet_tail (laidMet_tail (laidMet_tail (laidMet_tail (laidMet_tail h)))))⟩
set_option maxHeartbeats 2000000 in
theorem walk (s : ByteArray) (w : World) (hs : s.size ≤ maxLen) (hL : laidMet Tryd.prog Rows.fnExactTokensOfRow.laid w) : Calls Tryd.prog 3 #[.string s] w fun e w' => e = .returned (.bool true) ∧ Below w.heap.size w w' := by
  unfold maxLen at hs
  by_cases hls : s.size ≤ 1048576
  case neg =>
    have hd : (1048576 : Int) < s.size := by omega
    go_enter Tryd.func3, Tryd.ntmps3
    go_wp2
    go_ret
    exact ⟨rfl, Below.refl _ _⟩
  have hds : ¬ (1048576 : Int) < s.size := by omega
  have hT := Lib.hid (tabs hL)
  clear hL
  have hfl := tokT_len s
  have hf2 := tokO_len s
  go_enter Tryd.func3, Tryd.ntmps3
  go_wp2_with fail
  refine (spec_TokensOf_any s _ hls).mono ?_
  rintro e w1 ⟨s0, s1, rfl, ⟨ls0, ms0, ls1, ms1, qs1, qs2, qs3, qs4, qs5, qs6, qs7, f_s0, f_s1⟩, hb1⟩
  have B1 : Below w.heap.size w w1 := (Below.refl _ _).trans (hb1.mono (by omega))
  have z1 := hb1.size
  go_wp2_with fail
  refine (TokensOf_any s _ hls (hT.out.1.below B1) (hT.out.2.below B1)).mono ?_
  rintro e w2 ⟨g0, g1, rfl, ⟨lg0, mg0, lg1, mg1, qg1, qg2, qg3, qg4, qg5, qg6, qg7, f_g0, f_g1⟩, hb2⟩
  have B2 : Below w.heap.size w w2 := B1.trans (hb2.mono (by omega))
  have z2 := hb2.size
  replace f_s0 := f_s0.below hb2 (by omega)
  replace f_s1 := f_s1.below hb2 (by omega)
  go_wp2_with fail
  refine (eqStringS_any _ _ (tokT s) _ f_g0.rd f_s0.rd).mono ?_
  rintro e w3 ⟨rfl, hb3⟩
  have B3 : Below w.heap.size w w3 := B2.trans (hb3.mono (by omega))
  have z3 := hb3.size
  replace f_s0 := f_s0.below hb3 (by omega)
  replace f_s1 := f_s1.below hb3 (by omega)
  replace f_g0 := f_g0.below hb3 (by omega)
  replace f_g1 := f_g1.below hb3 (by omega)
  go_wp2_with fail
  refine (eqInt64S_any _ _ (tokO s) (tokO s) _ (by omega) f_g1.rd f_s1.rd).mono ?_
  rintro e w4 ⟨rfl, hb4⟩
  have B4 : Below w.heap.size w w4 := B3.trans (hb4.mono (by omega))
  have z4 := hb4.size
  replace f_s0 := f_s0.below hb4 (by omega)
  replace f_s1 := f_s1.below hb4 (by omega)
  replace f_g0 := f_g0.below hb4 (by omega)
  replace f_g1 := f_g1.below hb4 (by omega)
  go_wp2_with fail
  refine (markStringS_any _ _ _ (tokT s) (1) _ (by omega) (by omega) (by omega) f_g0).mono ?_
  rintro e w5 ⟨rfl, f_g0, hb5⟩
  have B5 : Below w.heap.size w w5 := B4.trans ((hb5.below (Nat.le_refl _) (by omega)).mono (by omega))
  have z5 := hb5.size
  replace f_s0 := f_s0.mod hb5 (by omega)
  replace f_s1 := f_s1.mod hb5 (by omega)
  replace f_g1 := f_g1.mod hb5 (by omega)
  go_wp2_with fail
  refine (markInt64S_any _ _ _ (tokO s) (1 + ((tokT s).length : Int)) _ (by omega) (by omega) (by omega) f_g1).mono ?_
  rintro e w6 ⟨rfl, f_g1, hb6⟩
  have B6 : Below w.heap.size w w6 := B5.trans ((hb6.below (Nat.le_refl _) (by omega)).mono (by omega))
  have z6 := hb6.size
  replace f_s0 := f_s0.mod hb6 (by omega)
  replace f_s1 := f_s1.mod hb6 (by omega)
  replace f_g0 := f_g0.mod hb6 (by omega)
  have k2 : ¬ (1 + ((tokT s).length : Int) + ((tokO s).length : Int) < 0) := by omega
  go_wp2_with fail
  refine (heldStringS_any _ (1) (tokT s).length _ (by omega) (by omega) (by omega) f_g0.rd).mono ?_
  rintro e w7 ⟨rfl, hb7⟩
  have B7 : Below w.heap.size w w7 := B6.trans (hb7.mono (by omega))
  have z7 := hb7.size
  replace f_s0 := f_s0.below hb7 (by omega)
  replace f_s1 := f_s1.below hb7 (by omega)
  replace f_g0 := f_g0.below hb7 (by omega)
  replace f_g1 := f_g1.below hb7 (by omega)
  go_wp2_with fail
  refine (heldInt64S_any _ (1 + ((tokT s).length : Int)) (tokO s).length _ (by omega) (by omega) (by omega) f_g1.rd).mono ?_
  rintro e w' ⟨rfl, rfl⟩
  go_wp2_with fail
  refine (TokensOf_any s _ hls (hT.out.1.below B7) (hT.out.2.below B7)).mono ?_
  rintro e w8 ⟨h0, h1, rfl, ⟨lh0, mh0, lh1, mh1, qh1, qh2, qh3, qh4, qh5, qh6, qh7, f_h0, f_h1⟩, hb8⟩
  have B8 : Below w.heap.size w w8 := B7.trans (hb8.mono (by omega))
  have z8 := hb8.size
  replace f_s0 := f_s0.below hb8 (by omega)
  replace f_s1 := f_s1.below hb8 (by omega)
  replace f_g0 := f_g0.below hb8 (by omega)
  replace f_g1 := f_g1.below hb8 (by omega)
  go_wp2_with fail
  refine (eqStringS_any _ _ (tokT s) _ f_h0.rd f_s0.rd).mono ?_
  rintro e w9 ⟨rfl, hb9⟩
  have B9 : Below w.heap.size w w9 := B8.trans (hb9.mono (by omega))
  have z9 := hb9.size
  replace f_s0 := f_s0.below hb9 (by omega)
  replace f_s1 := f_s1.below hb9 (by omega)
  replace f_g0 := f_g0.below hb9 (by omega)
  replace f_g1 := f_g1.below hb9 (by omega)
  replace f_h0 := f_h0.below hb9 (by omega)
  replace f_h1 := f_h1.below hb9 (by omega)
  go_wp2_with fail
  refine (eqInt64S_any _ _ (tokO s) (tokO s) _ (by omega) f_h1.rd f_s1.rd).mono ?_
  rintro e w10 ⟨rfl, hb10⟩
  have B10 : Below w.heap.size w w10 := B9.trans (hb10.mono (by omega))
  have z10 := hb10.size
  replace f_s0 := f_s0.below hb10 (by omega)
  replace f_s1 := f_s1.below hb10 (by omega)
  replace f_g0 := f_g0.below hb10 (by omega)
  replace f_g1 := f_g1.below hb10 (by omega)
  replace f_h0 := f_h0.below hb10 (by omega)
  replace f_h1 := f_h1.below hb10 (by omega)
  go_wp2_with fail
  refine (heldStringS_any _ (1) (tokT s).length _ (by omega) (by omega) (by omega) f_g0.rd).mono ?_
  rintro e w11 ⟨rfl, hb11⟩
  have B11 : Below w.heap.size w w11 := B10.trans (hb11.mono (by omega))
  have z11 := hb11.size
  replace f_s0 := f_s0.below hb11 (by omega)
  replace f_s1 := f_s1.below hb11 (by omega)
  replace f_g0 := f_g0.below hb11 (by omega)
  replace f_g1 := f_g1.below hb11 (by omega)
  replace f_h0 := f_h0.below hb11 (by omega)
  replace f_h1 := f_h1.below hb11 (by omega)
  go_wp2_with fail
  refine (heldInt64S_any _ (1 + ((tokT s).length : Int)) (tokO s).length _ (by omega) (by omega) (by omega) f_g1.rd).mono ?_
  rintro e w' ⟨rfl, rfl⟩
  go_wp2_with fail
  go_ret
  exact ⟨rfl, B11⟩
theorem own : ownKnob Tryd.prog.godebug = none := by kernel_rfl
theorem laidOut : laidOutB Tryd.prog = true := by kernel_rfl
theorem door_met (os : Os) (args : Array Value) : laidMetH Tryd.prog Rows.fnExactTokensOfRow.laid ((World.doorLaid Tryd.prog 400 os).forCall (fun _ _ => 0) ⟨#[], args, []⟩).memory := by
  rw [MakeChecks.laidMetH_plain _ _ _ (by kernel_rfl)]
  exact laidMet_of_run' 8 (by kernel_rfl) (by kernel_rfl)
set_option maxRecDepth 100000 in
theorem lifted (os : Os) (started : os.Started) (H : Type) (enc : TypeId × Value → H) :
    ReturnsInHanded {} Tryd.checked os 3 .any (fun w args => (Rows.fnExactTokensOfSpec.pre enc Tryd.prog Tryd.f3 [] false w args ∧ laidMetH Tryd.prog Rows.fnExactTokensOfRow.laid w) ∧ sizedMet enc Tryd.prog Tryd.f3 (OpenSpec.ofChange Rows.fnExactTokensOfSpec) false w args)
      (Rows.fnExactTokensOfSpec.post enc Tryd.prog Tryd.f3 false true false false) := by
  refine returnsInHanded_of_change_and (C := Tryd.checked) (X := fun w _ => laidMetH Tryd.prog Rows.fnExactTokensOfRow.laid w) (fun _ _ _ hh h => h.of_heap hh) own started (by kernel_rfl) Tryd.func3
    (ChangeSpec.witness_shaped (enc := enc) (C := Tryd.checked) (os := os) (X := fun w _ => laidMetH Tryd.prog Rows.fnExactTokensOfRow.laid w) false (World.doorLaid Tryd.prog 400 os) #[.string ByteArray.empty] 8 rfl (World.shaped_of_RefB (by kernel_rfl) (by kernel_rfl)) (by kernel_rfl) (by kernel_rfl) (by kernel_rfl) (door_met os _)) ?_
  intro W base args ds gs before hval0 hW _ _ hL _
  rw [MakeChecks.laidMetH_plain _ _ _ (by kernel_rfl)] at hL
  have hval : ∀ (j : Nat) t v, Tryd.f3.params[j]? = some t → args[j]? = some v → Value.okWide Tryd.prog W .any base t v := hval0
  have hW' := hW
  obtain ⟨p, q, hA0, hV, rfl, hfz, hnd⟩ := hW
  have hA : DataW.TrodAll enc Tryd.prog W 0 (fun _ => true) true Tryd.f3.params.toList args.toList ds p := hA0
  rw [Tryd.params3] at hA hval
  obtain ⟨v0, vs0, d0, ds0, p0, q0, hargs, rfl, rfl, h0, r0⟩ := trodAll_cons hA
  obtain ⟨rfl, rfl, rfl⟩ := trodAll_nil r0
  obtain rfl : args = #[v0] := by cases args; simp_all
  obtain ⟨gv, tv, csv, fuelv, dv, pv, rfl, hgn, hgt, hvar, htr, rfl⟩ := trodVars_one hV
  obtain ⟨a0, rfl, rfl, rfl, w0⟩ := open_string Tryd.underlying9 (hval 0 9 v0 rfl rfl) h0
  clear hA0 hval0
  refine (walk a0 W w0 hL).mono fun e W' ⟨he, bel⟩ => ?_
  subst he
  obtain rfl : gv = 0 := Option.some.inj (hgn.symm.trans (by kernel_rfl))
  obtain rfl : tv = 48 := Option.some.inj (hgt.symm.trans (by kernel_rfl))
  obtain ⟨fuel2, htr2⟩ := Below.trod (v := .agg csv) laidOut (by kernel_rfl) (of_decide_eq_true (by kernel_rfl)) ⟨fuelv, htr⟩ bel (DataW.trod_lt fuelv _ _ _ htr)
  have hglt : 0 < W.heap.size := by
    have hx := hvar
    unfold World.var? at hx
    rw [hgn] at hx
    simp only [Option.bind_some] at hx
    cases hq : W.heap[0]? with
    | none => rw [hq] at hx; cases hx
    | some ob => exact (Array.getElem?_eq_some_iff.1 hq).1
  exact ⟨_, rfl, _, _, _, [], _, _, hW', trodAll_mk1 (shut_bool Tryd.underlying4 _), (trodAll_cons_mk (shut_string Tryd.underlying9 w0) trodAll_mk0), ⟨_, _, _, fuel2, _, [], hgn, hgt, var?_below bel hgn hglt hvar, htr2, rfl, rfl⟩, bel.frame _, fun h => by cases h⟩
theorem said : Rows.fnExactTokensOfRow.holds Tryd.pinned (OpenSpec.ofChange Rows.fnExactTokensOfSpec) :=
  OpenClaim.holds_of_wide 3 Tryd.f3 rfl rfl rfl rfl rfl rfl rfl ⟨rfl, rfl, rfl, rfl, rfl⟩ rfl rfl rfl rfl rfl (by kernel_rfl) Tryd.func3 (by kernel_rfl)
    (of_decide_eq_true (by kernel_rfl)) (by unfold Func.isWrapper; first | (rw [if_pos (by decide +kernel)]; kernel_rfl) | (rw [if_neg (by decide +kernel)]; exact ⟨rfl, rfl⟩))
    (fun os started H enc _ => lifted os started H enc)
theorem plain (f : FuncId) (fn : Func) (hf : Tryd.pinned.checked.prog.funcNamed Rows.fnExactTokensOfRow.func = some f) (hfn : Tryd.pinned.checked.prog.funcs[f]? = some fn) :
    true = Tryd.pinned.checked.prog.looks [] ∧ ∀ (j : Nat) t, fn.params[j]? = some t → Tryd.pinned.checked.prog.wantsStandIn t = false := by
  obtain rfl : f = 3 := Option.some.inj ((show Tryd.prog.funcNamed Rows.fnExactTokensOfRow.func = some 3 by kernel_rfl).symm.trans hf) |>.symm
  obtain rfl : fn = Tryd.f3 := (Option.some.inj (Tryd.func3.symm.trans hfn)).symm
  refine ⟨by kernel_rfl, fun j t ht => ?_⟩
  rw [Tryd.params3] at ht
  have hm : t ∈ [9] := by simpa using Array.mem_of_getElem? ht
  have hall : ([9].all fun u => !Tryd.prog.wantsStandIn u) = true := by kernel_rfl
  exact (show Tryd.prog.wantsStandIn t = false by simpa using List.all_eq_true.1 hall t hm)
theorem card : Rows.FnExactTokensOfCardSaid :=
  Claim7.holds_tied_plain_at .later [] _ _ _ _ said (fun _ h => by cases h) (by kernel_rfl) (fun _ h => by cases h) fnExactTokensOf_row_tie rfl ⟨rfl, rfl⟩ (by kernel_rfl) rfl plain (by kernel_rfl)
end Go.Proofs.YtcakmchefbohoaaDoor.fnExactTokensOf
