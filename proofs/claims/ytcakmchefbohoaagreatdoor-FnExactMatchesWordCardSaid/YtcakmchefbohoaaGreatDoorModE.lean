/- Contracts: the end of an operand of a regular expression, by the reference; the kinds of a replacement, by the program. -/
import Derived.Test.YtcakmchefbohoaaGreatDoorProg
import Derived.Test.YtcakmchefbohoaaGreatDoorMem
import Derived.Test.YtcakmchefbohoaaGreatDoorMath
import Derived.Test.YtcakmchefbohoaaGreatDoorBasics
import Derived.Test.YtcakmchefbohoaaGreatDoorHelpI
import Derived.Test.YtcakmchefbohoaaGreatDoorReg
import Derived.Test.YtcakmchefbohoaaGreatDoorVReg
import Derived.Test.YtcakmchefbohoaaGreatDoorTreeR
import Derived.Test.YtcakmchefbohoaaGreatDoorDec
import Derived.WalkKit
import Derived.BigQuiet
import Derived.Lib.Hide
import Derived.Outline
set_option linter.unusedVariables false
set_option linter.unusedSimpArgs false
namespace Go.Proofs.YtcakmchefbohoaaGreatDoor
open Go.RowKit

theorem frg_ok_app {A B : FRg} (ha : FRg.ok A) (hb : FRg.ok B) : FRg.ok (FRg.app A B) := by
  induction A with
  | nil => exact hb
  | cons x k n _ ih => exact ⟨ha.1, ha.2.1, ih ha.2.2⟩
theorem drop_head {f : List Rg} {j : Nat} {y : Rg} {l : List Rg} (h : f.drop j = y :: l) : j < f.length ∧ rgnth f j = y ∧ f.drop (j + 1) = l := by
  have hj : j < f.length := by
    rcases Nat.lt_or_ge j f.length with h1 | h1
    · exact h1
    · rw [List.drop_eq_nil_of_le h1] at h; cases h
  rw [List.drop_eq_getElem_cons hj] at h
  obtain ⟨e1, e2⟩ := List.cons.inj h
  exact ⟨hj, by rw [rgnth_eq f j hj]; exact e1, e2⟩
set_option maxRecDepth 100000 in
set_option maxHeartbeats 1000000 in
theorem l20End_any (v : Value) (f : List Rg) (a0 : Nat) (G : FRg) (rest : List Rg) (w : World) (hn : f.length ≤ 1048576) (hkd : ∀ i, i < f.length → inR (rgnth f i).kind 0 3 = true) (hG : FRg.ok G) (h1 : FRg.len G = 1) (ha : a0 ≤ f.length) (hf : f.drop a0 = FRg.flat G ++ rest) (hv : RdRg w v f) :
    Calls Tryz.prog 71 #[v, .int .i64 a0] w fun e w' => e = .returned (.int .i64 ((a0 + (FRg.flat G).length : Nat))) ∧ w = w' := by
  have HV := Lib.hid hv
  have HK := Lib.hid hkd
  have HG := Lib.hid (show FRg.ok G ∧ f.drop a0 = FRg.flat G ++ rest from ⟨hG, hf⟩)
  have HL1 := Lib.hid h1
  obtain ⟨a, cap, rfl, hcap, hm, hv⟩ := hv
  unfold maxLen at hm
  obtain ⟨n, hxn⟩ : ∃ n, n = f.length := ⟨_, rfl⟩
  rw [← hxn] at hcap HV hn ha ⊢
  have Hxn := Lib.hid hxn
  obtain ⟨E, hE⟩ : ∃ E, E = a0 + (FRg.flat G).length := ⟨_, rfl⟩
  rw [← hE]
  have HE := Lib.hid hE
  clear hxn hv hkd hG hf h1 hE
  go_enter Tryz.func71, Tryz.ntmps71
  go_wp2_with fail
  go_loop [1, 5] (fun sk sn => ∃ (j D : Nat) (H : FRg), j ≤ n ∧ D ≤ n + 1 ∧ sk = .int .i64 j ∧ sn = .int .i64 D ∧ Hid (D = FRg.len H) ∧ Hid (FRg.ok H ∧ f.drop j = FRg.flat H ++ rest) ∧ Hid (E = j + (FRg.flat H).length)) (fun sk _ => n + 1 - (intOf sk).toNat)
  case atStart => exact ⟨a0, 1, G, ha, by omega, rfl, rfl, Lib.hid HL1.out.symm, HG, HE⟩
  case round =>
    obtain ⟨j, D, H, hj, hD, rfl, rfl, HD, HH, HJ⟩ := hrel
    cases H with
    | nil =>
      have hD0 : D = 0 := HD.out
      have HJ2 : Hid (E = j) := Lib.hid (by have := HJ.out; simpa [FRg.flat] using this)
      subst hD0
      go_wp2_with fail
      go_ret
      exact ⟨by rw [HJ2.out]; rfl, rfl⟩
    | cons y kk nx =>
      have hh := HH.out.2
      have hok := HH.out.1
      have hdr : f.drop j = y :: (FRg.flat (FRg.app kk nx) ++ rest) := by rw [hh, FRg.flat_app]; rfl
      obtain ⟨hjf, hy, hd1⟩ := drop_head hdr
      have HH2 : Hid (FRg.ok (FRg.app kk nx) ∧ f.drop (j + 1) = FRg.flat (FRg.app kk nx) ++ rest) := Lib.hid ⟨frg_ok_app hok.2.1 hok.2.2, hd1⟩
      have HJ2 : Hid (E = j + 1 + (FRg.flat (FRg.app kk nx)).length) := Lib.hid (by rw [HJ.out, FRg.flat_app]; simp [FRg.flat]; omega)
      obtain ⟨D2, hD2⟩ : ∃ D2, D2 = FRg.len (FRg.app kk nx) := ⟨_, rfl⟩
      have hDD : (D : Int) + (rarity y.kind - 1) = (D2 : Int) := by
        rw [hD2, FRg.len_app, HD.out]
        have := hok.1
        simp only [FRg.len]
        omega
      have hD2n : D2 ≤ n + 1 := by
        have q1 := FRg.len_le_flat (FRg.app kk nx)
        have q2 : (f.drop (j + 1)).length = (FRg.flat (FRg.app kk nx) ++ rest).length := by rw [hd1]
        rw [List.length_drop, List.length_append] at q2
        have := Hxn.out
        omega
      have hDp : 0 < D := by rw [HD.out]; simp [FRg.len]
      have hjn : j < n := by rw [Hxn.out]; exact hjf
      obtain ⟨b, o, rfl, hb, q0, q1, q2⟩ := RdRg.cells HV.out hjf
      have hk3 := HK.out j hjf
      rw [hy] at q0 q1 q2 hk3
      have hrb := rarity_bd y.kind
      have HD2 := Lib.hid hD2
      clear hD2 hdr hd1 hh hok hy HH HJ HD
      go_wp2_with (go_at_call 66; refine (l20Arity_any _ _ hk3).mono ?_; rintro e w' ⟨rfl, rfl⟩)
      go_round
      case rel => exact ⟨j + 1, D2, _, by omega, hD2n, by go_num, by rw [← hDD], HD2, HH2, HJ2⟩
      case measure => simp [intOf]; omega
theorem repKind_any (b : Nat) (box : Bool) (p q : Int) (w : World) (hb : w.cell? ⟨b, 0, none⟩ = some (.bool box)) :
    Calls Tryz.prog 119 #[.pointer (some ⟨b, 0, none⟩), .int .i64 p, .int .i64 q] w fun e w' => e = .returned (.int .i64 (if box = true then q else p)) ∧ w = w' := by
  cases box with
  | true =>
    go_enter Tryz.func119, Tryz.ntmps119
    go_wp2_with fail
    go_ret
    exact ⟨rfl, rfl⟩
  | false =>
    go_enter Tryz.func119, Tryz.ntmps119
    go_wp2_with fail
    go_ret
    exact ⟨rfl, rfl⟩
end Go.Proofs.YtcakmchefbohoaaGreatDoor
