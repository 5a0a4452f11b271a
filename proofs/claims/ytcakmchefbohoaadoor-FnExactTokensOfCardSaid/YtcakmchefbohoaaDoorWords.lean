/- Contracts: the words of a text, of the program and of the reference; the laws' helpers for lists of texts. -/
import Derived.Test.YtcakmchefbohoaaDoorProg
import Derived.Test.YtcakmchefbohoaaDoorMem
import Derived.Test.YtcakmchefbohoaaDoorMath
import Derived.Test.YtcakmchefbohoaaDoorBasics
import Derived.Test.YtcakmchefbohoaaDoorHelpI
import Derived.Test.YtcakmchefbohoaaDoorShelf
import Derived.Test.YtcakmchefbohoaaDoorDec
import Derived.Test.YtcakmchefbohoaaDoorText
import Derived.Test.YtcakmchefbohoaaDoorSplit
import Derived.Test.YtcakmchefbohoaaDoorFld
import Derived.Test.YtcakmchefbohoaaDoorMkT
import Derived.WalkKit
import Derived.BigQuiet
import Derived.BigRegion
import Derived.Deep.QuietTactic
import Derived.Deep.RegionHeld3
import Derived.Maps.AppendAt
import Derived.Laws.OwnMore
import Derived.Lib.Hide
import Derived.Outline
set_option linter.unusedVariables false
set_option linter.unusedSimpArgs false
namespace Go.Proofs.YtcakmchefbohoaaDoor
open Go.RowKit

def fullB (x : ByteArray) : Bool := full x.data.toList
def wordsF (s : ByteArray) : List ByteArray := (wordsB 32 s).filter fullB
theorem snth_get (ss : List ByteArray) (i : Nat) (h : i < ss.length) : ss[i]? = some (snth ss i) := by simp [snth, h]
theorem eqStringS_any (va vb : Value) (ss : List ByteArray) (w : World) (ha : RdS w va ss) (hb : RdS w vb ss) :
    Calls Tryd.prog 6 #[va, vb] w fun e w' => e = .returned (.bool true) ∧ Below w.heap.size w w' := by
  obtain ⟨a, ca, rfl, hca, hma, ha⟩ := ha
  obtain ⟨b, cb, rfl, hcb, hmb, hb⟩ := hb
  unfold maxLen at hma hmb
  obtain ⟨n, hn⟩ : ∃ n, n = ss.length := ⟨_, rfl⟩
  rw [← hn] at hca hcb ha hb ⊢
  clear hn
  go_enter Tryd.func6, Tryd.ntmps6
  go_wp2_with fail
  go_loopw [5] (fun si wr => ∃ k : Nat, k ≤ n ∧ si = .int .i64 k ∧ Below w.heap.size w wr) (fun si _ => n - (intOf si).toNat)
  case atStart => exact ⟨0, Nat.zero_le _, rfl, Below.refl _ _⟩
  case round =>
    obtain ⟨k, hk, rfl, hbl⟩ := hrel
    by_cases hlt : k < n
    · obtain ⟨b1, o1, rfl, hb1, hc1⟩ := ha (by omega)
      obtain ⟨b2, o2, rfl, hb2, hc2⟩ := hb (by omega)
      have g1 : wr.cell? ⟨b1, o1 + k, none⟩ = some (.string (snth ss k)) := (hbl.cell (by exact hb1)).trans (hc1 k (by omega))
      have g2 : wr.cell? ⟨b2, o2 + k, none⟩ = some (.string (snth ss k)) := (hbl.cell (by exact hb2)).trans (hc2 k (by omega))
      obtain ⟨x, hx⟩ : ∃ x, x = snth ss k := ⟨_, rfl⟩
      rw [← hx] at g1 g2
      clear hc1 hc2 ha hb hx
      go_wp2_with fail
      first
        | go_roundw
        | (go_quiet (fail); go_wp2_with fail; go_roundw)
      case rel => exact ⟨k + 1, by omega, by go_num, by first | exact hbl | exact hbl.trans ⟨rfl, rfl, rfl, Nat.le_refl _, fun _ _ => rfl⟩⟩
      case measure => simp [intOf]; omega
    · go_wp2_with fail
      go_ret
      exact ⟨rfl, hbl⟩
def marksS (m : Int) (n : Nat) : List ByteArray := (List.range n).map fun (i : Nat) => markT (m + (i : Int)).toNat
theorem marksS_len (m : Int) (n : Nat) : (marksS m n).length = n := by simp [marksS]
theorem snth_marks (m : Int) (n i : Nat) (h : i < n) : snth (marksS m n) i = markT (m + (i : Int)).toNat := by simp [snth, marksS, h]
def mixS (m : Int) (n k : Nat) (f : List ByteArray) (i : Nat) : Value := if i < k then sc (marksS m n) i else sc f i
set_option maxRecDepth 100000 in
set_option maxHeartbeats 800000 in
theorem markStringS_any (lo hi : Nat) (v : Value) (f : List ByteArray) (m : Int) (w : World) (hn : f.length ≤ 2097152) (h0 : 0 < m) (hm : m ≤ 100000000) (hv : InS w lo hi v f) :
    Calls Tryd.prog 8 #[v, .int .i64 m] w fun e w' => e = .returned (.int .i64 (m + (f.length : Int))) ∧ InS w' lo hi v (marksS m f.length) ∧ Mod lo hi w w' := by
  have HV := Lib.hid hv
  obtain ⟨a, cap, rfl, hcap, hcm, hv⟩ := hv
  unfold maxLen at hcm
  obtain ⟨n, hxn⟩ : ∃ n, n = f.length := ⟨_, rfl⟩
  unfold InS at HV ⊢
  rw [marksS_len]
  rw [← hxn] at hcap HV hn ⊢
  have Hxn := Lib.hid hxn; clear hxn hv
  go_enter Tryd.func8, Tryd.ntmps8
  go_wp2_with fail
  go_loopw [1, 5] (fun sk si wr => ∃ k : Nat, k ≤ n ∧ si = .int .i64 k ∧ sk = .int .i64 (m + (k : Int)) ∧ Hid (In wr lo hi 1 (.slice a n cap) n (mixS m n k f)) ∧ Hid (Mod lo hi w wr))
    (fun _ si _ => n - (intOf si).toNat)
  case atStart => exact ⟨0, Nat.zero_le _, rfl, by simp, Lib.hid (In_same HV.out fun i _ => by unfold mixS; rw [if_neg (by omega)]), Lib.hid (Mod.refl _ _ _)⟩
  case round =>
    obtain ⟨k, hk, rfl, rfl, HI, HM⟩ := hrel
    by_cases hlt : k < n
    · obtain ⟨b, o, rfl⟩ := HI.out.base (by omega)
      obtain ⟨M, hM⟩ : ∃ M, M = m + (k : Int) := ⟨_, rfl⟩
      have Hm2 : Hid (m + ((k + 1 : Nat) : Int) = M + 1) := Lib.hid (by omega)
      have HMx := Lib.hid hM
      rw [← hM]
      have hM0 : 0 < M := by omega
      have hM1 : M ≤ 1000000000 - 10 := by omega
      clear hM
      go_wp2_with fail
      refine (markText_any' M _ (by omega) (by omega)).mono ?_
      rintro e w1 ⟨rfl, hb1⟩
      have I2 := HI.out.stayed hb1
      have M2 := HM.out.trans (hb1.mods lo hi)
      obtain ⟨p0, z0, hl0, hh0, hs0⟩ := I2.at (k := k) (p := ⟨b, o + k, none⟩) (by omega) rfl
      have i1 := In_put I2 (k := k) (p := ⟨b, o + k, none⟩) (by omega) rfl (.string (markT M.toNat))
      have HJ : Hid (In _ lo hi 1 (.slice (some ⟨b, o, none⟩) n cap) n (mixS m n (k + 1) f)) := Lib.hid (In_same i1 fun i hi => by
        unfold mixS
        by_cases h0 : i = k
        · rw [if_pos (by omega), h0]; unfold sc; rw [snth_marks _ _ _ hlt, ← HMx.out]; simp
        by_cases hk4 : i < k
        · rw [if_pos (by omega)]; simp [h0, hk4]
        · rw [if_neg (by omega)]; simp [h0, hk4])
      have HN := Lib.hid ((M2).setCell (p := ⟨b, o + k, none⟩) hl0 hh0 (.string (markT M.toNat)))
      clear i1 I2 M2 HI HM
      go_wp2_with fail
      go_roundw
      case rel => exact ⟨k + 1, by omega, by go_num, by rw [Hm2.out], HJ, HN⟩
      case measure => simp [intOf]; omega
    · obtain rfl : k = n := by omega
      go_wp2_with fail
      go_ret
      exact ⟨rfl, In_same HI.out fun i hi => by unfold mixS; rw [if_pos (by omega)], HM.out⟩
theorem held_one {wr W W1 : World} {b x0 : Nat} {u0 : Value} (hbz : Below W.heap.size W W1)
    (h : Below wr.heap.size wr W ∧ W.cell? ⟨b, x0, none⟩ = some u0) (hb : b < wr.heap.size) :
    Below wr.heap.size wr W1 ∧ W1.cell? ⟨b, x0, none⟩ = some u0 := by
  obtain ⟨h0, h1⟩ := h
  have hlt : b < W.heap.size := Nat.lt_of_lt_of_le hb h0.size
  exact ⟨below_trans' h0 hbz, (hbz.cell (by exact hlt)).trans h1⟩
set_option maxRecDepth 100000 in
set_option maxHeartbeats 800000 in
theorem heldStringS_any (v : Value) (m : Int) (n : Nat) (w : World) (hn : n ≤ 2097152) (h0 : 0 < m) (hm : m ≤ 100000000) (hv : RdS w v (marksS m n)) :
    Calls Tryd.prog 10 #[v, .int .i64 m] w fun e w' => e = .returned (.int .i64 (m + (n : Int))) ∧ Below w.heap.size w w' := by
  have HL := Lib.hid (marksS_len m n)
  obtain ⟨a, cap, rfl, hcap, hcm, hv⟩ := hv
  unfold maxLen at hcm
  rw [HL.out] at hcap hv ⊢
  go_enter Tryd.func10, Tryd.ntmps10
  go_wp2_with fail
  go_loopw [1, 5] (fun sk si wr => ∃ k : Nat, k ≤ n ∧ si = .int .i64 k ∧ sk = .int .i64 (m + (k : Int)) ∧ Below w.heap.size w wr)
    (fun _ si _ => n - (intOf si).toNat)
  case atStart => exact ⟨0, Nat.zero_le _, rfl, by simp, Below.refl _ _⟩
  case round =>
    obtain ⟨k, hk, rfl, rfl, hbl⟩ := hrel
    by_cases hlt : k < n
    · obtain ⟨b, o, rfl, hb, hc⟩ := hv (by omega)
      have g0 : w.cell? ⟨b, o + k, none⟩ = some (.string (snth (marksS m n) k)) := hc k (by omega)
      rw [snth_marks _ _ _ hlt] at g0
      obtain ⟨M, hM⟩ : ∃ M, M = m + (k : Int) := ⟨_, rfl⟩
      have Hm2 : Hid (m + ((k + 1 : Nat) : Int) = M + 1) := Lib.hid (by omega)
      rw [← hM] at g0 ⊢
      have hM0 : 0 < M := by omega
      have hM1 : M ≤ 1000000000 - 10 := by omega
      clear hM hc hv
      have q0 := (hbl.cell (by exact hb)).trans g0
      have hblo := hbl.size
      obtain ⟨X, hX⟩ : ∃ X, X = markT M.toNat := ⟨_, rfl⟩
      rw [← hX] at q0
      have hd0 : Below wr.heap.size wr wr.drew := Below.drew (Below.refl _ _)
      have hbw : b < wr.heap.size := Nat.lt_of_lt_of_le hb hblo
      clear g0
      go_wp2_with fail
      go_region_held3 (fun W => Below wr.heap.size wr W ∧ W.cell? ⟨b, o + k, none⟩ = some (.string X)) ((first | exact ⟨hd0, q0⟩ | exact held_one (by assumption) (by assumption) hbw)) ((first | (go_at_call 15; refine (markText_x _ X _ (by omega) (by omega) hX).mono ?_; rintro e w1 ⟨rfl, hb1⟩) | fail))
      all_goals obtain ⟨hW0, hW1⟩ := (by assumption : Below wr.heap.size wr _ ∧ _)
      all_goals have hbl1 := below_trans' hbl hW0
      all_goals go_wp2_with fail
      go_roundw
      case rel => exact ⟨k + 1, by omega, by go_num, by rw [Hm2.out], hbl1⟩
      case measure => simp [intOf]; omega
    · obtain rfl : k = n := by omega
      go_wp2_with fail
      go_ret
      exact ⟨rfl, hbl⟩
end Go.Proofs.YtcakmchefbohoaaDoor
