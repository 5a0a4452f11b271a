/- FnExactValidGame: the program and the reference answer alike, for every list of vertices. No condition. -/
import Derived.Test.YtdlldgenkmngiaaRows
import Derived.Test.YtdlldgenkmngiaaSt
import Derived.Test.YtdlldgenkmngiaaStSz
import Derived.Test.YtdlldgenkmngiaaStTo
import Derived.Test.YtdlldgenkmngiaaStEq
import Derived.Test.YtdlldgenkmngiaaStI
import Derived.Test.YtdlldgenkmngiaaStV
import Derived.WalkKit
import Derived.BigQuiet
import Derived.ProofKit
import Derived.OpenShut
import Derived.ShutString
import Derived.ChangeOld
import Derived.Below
set_option linter.unusedVariables false
set_option linter.unusedSimpArgs false
namespace Go.Proofs.Ytdlldgenkmngiaa.fnExactValidGame
open Go.ChangeShapes Go.WideShapes Go.ChangeAt Go.RowKit
open Go.ChangeMaps (open_string shut_string)

set_option maxRecDepth 100000 in
set_option maxHeartbeats 4000000 in
theorem walk (v0 : Value) (f : List Vx) (w : World) (h : GVx w 0 w.heap.size v0 f ∧ okVx f) :
    Calls Try.prog 3 #[v0] w fun e w' => e = .returned (.bool true) ∧ Below w.heap.size w w' := by
  obtain ⟨hv, hok⟩ := h
  have HV := Lib.hid hv
  obtain ⟨a, cap, rfl, hcap, hm⟩ := Rws.slice hv
  unfold maxLen at hm
  clear hv
  by_cases z0 : (totVx f : Int) ≤ 1048576
  case neg =>
    go_enter Try.func3, Try.ntmps3
    go_wp2_with fail
    refine (szVx_any _ f _ _ (by decide) (by decide) hok HV.out).mono ?_
    rw [cut_no (by omega)]
    rintro e w1 ⟨rfl, hb1⟩
    go_wp2_with fail
    go_ret
    exact ⟨rfl, hb1⟩
  have hn : totVx f ≤ 1048576 := by omega
  have hnn : ¬ (1048576 - (totVx f : Int) < 0) := by omega
  obtain ⟨d, hd⟩ : ∃ d, d = gameB f := ⟨_, rfl⟩
  have Hd := Lib.hid hd
  have hdd : (d != d) = false := by simp
  clear hd
  go_enter Try.func3, Try.ntmps3
  go_wp2_with fail
  refine (szVx_any _ f _ _ (by decide) (by decide) hok HV.out).mono ?_
  rw [cut_yes z0]
  rintro e w1 ⟨rfl, hb1⟩
  clear z0
  go_wp2_with fail
  refine (toVx_any _ f _ hn (HV.out.keep (Keep.of_below _ _ hb1))).mono ?_
  rintro e w2 ⟨u2, rfl, g2, hb2⟩
  have B2 := below_trans' hb1 hb2
  obtain ⟨a2, c2, rfl, _, _⟩ := Rws.slice g2
  go_wp2_with fail
  refine (spec_ValidGame_any _ f _ hn g2).mono ?_
  rw [← Hd.out]
  rintro e w3 ⟨rfl, hb3⟩
  have B3 := below_trans' B2 hb3
  go_wp2_with fail
  refine (toVx_any _ f _ hn (HV.out.keep (Keep.of_below _ _ B3))).mono ?_
  rintro e w4 ⟨u4, rfl, g4, hb4⟩
  have B4 := below_trans' B3 hb4
  obtain ⟨a4, c4, rfl, _, _⟩ := Rws.slice g4
  go_wp2_with fail
  refine (ValidGame_any _ f _ hn g4).mono ?_
  rw [← Hd.out]
  rintro e w5 ⟨rfl, hb5⟩
  have B5 := below_trans' B4 hb5
  go_wp2_with fail
  refine (toVx_any _ f _ hn (HV.out.keep (Keep.of_below _ _ B5))).mono ?_
  rintro e w6 ⟨u6, rfl, g6, hb6⟩
  have B6 := below_trans' B5 hb6
  obtain ⟨a6, c6, rfl, _, _⟩ := Rws.slice g6
  go_wp2_with fail
  refine (eqVx_any _ _ f f _ hn ((g4.keep (Keep.of_below _ _ hb5)).keep (Keep.of_below _ _ hb6)) g6).mono ?_
  rw [decide_eq_true rfl]
  rintro e w7 ⟨rfl, hb7⟩
  have B7 := below_trans' B6 hb7
  go_wp2_with fail
  go_ret
  exact ⟨rfl, B7⟩
theorem own : ownKnob Try.prog.godebug = none := by kernel_rfl
theorem laidOut : laidOutB Try.prog = true := by kernel_rfl
set_option maxRecDepth 100000 in
theorem lifted (os : Os) (started : os.Started) (H : Type) (enc : TypeId × Value → H) :
    ReturnsInHanded {} Try.checked os 3 .any (Rows.fnExactValidGameSpec.pre6 enc Try.prog Try.f3 Rows.fnExactValidGameRow.domain false) (Rows.fnExactValidGameSpec.post enc Try.prog Try.f3 false true false false) := by
  refine returnsInHanded_of_change (C := Try.checked) own started (by kernel_rfl) Try.func3
    (ChangeSpec.witness6 (enc := enc) (C := Try.checked) false ⟨#[], #[.slice none 0 0], []⟩ 8 (by kernel_rfl) (by kernel_rfl) (by kernel_rfl) (by kernel_rfl)) ?_
  intro W base args ds gs before hval0 hW hcnd _
  have hval : ∀ (j : Nat) t v, Try.f3.params[j]? = some t → args[j]? = some v → Value.okWide Try.prog W .any base t v := hval0
  have hW' := hW
  obtain ⟨p, q, hA0, hV, rfl, hfz, hnd⟩ := hW
  have hA : DataW.TrodAll enc Try.prog W 0 (fun _ => true) true Try.f3.params.toList args.toList ds p := hA0
  rw [Try.params3] at hA hval
  obtain ⟨v0, vs0, d0, ds0, p0, q0, hargs, rfl, rfl, h0, r0⟩ := trodAll_cons hA
  obtain ⟨rfl, rfl, rfl⟩ := trodAll_nil r0
  obtain rfl : args = #[v0] := by cases args; simp_all
  obtain ⟨rfl, rfl⟩ := trodVars_none hV
  have k0 := h0
  have lt0 : ∀ x ∈ p0, x.block < W.heap.size := by obtain ⟨m, hm⟩ := k0; exact DataW.trod_lt m _ _ _ hm
  obtain ⟨z0, w0⟩ := openVertex (hval 0 22 v0 rfl rfl) h0 lt0
  clear hA0 hval0
  refine (walk v0 z0 W w0).mono fun e W' ⟨he, bel⟩ => ?_
  subst he
  exact ⟨_, rfl, _, _, _, [], _, [], hW', trodAll_mk1 (shut_bool Try.underlying4 _), (trodAll_cons_mk (Below.trod laidOut (by kernel_rfl) (of_decide_eq_true (by kernel_rfl)) k0 bel lt0) trodAll_mk0), rfl, bel.frame _, fun h => by cases h⟩
theorem over : Rows.fnExactValidGameRow.holds Try.pinned (OpenSpec.ofChange Rows.fnExactValidGameSpec) :=
  OpenClaim.holds_of_wide 3 Try.f3 rfl rfl rfl rfl rfl rfl rfl ⟨rfl, rfl, rfl, rfl, rfl⟩ rfl rfl rfl rfl rfl (by kernel_rfl) Try.func3 (by kernel_rfl)
    (of_decide_eq_true (by kernel_rfl)) (by unfold Func.isWrapper; first | (rw [if_pos (by decide +kernel)]; kernel_rfl) | (rw [if_neg (by decide +kernel)]; exact ⟨rfl, rfl⟩))
    (fun os started H enc _ => lifted os started H enc)
theorem proved : Rows.FnExactValidGameSaid := over
end Go.Proofs.Ytdlldgenkmngiaa.fnExactValidGame
