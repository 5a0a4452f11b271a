/- The laws' own helper that writes a mark as text; marking and holding rows of nodes. -/
import Derived.Test.YtcakmchefbohoaaGreatDoorProg
import Derived.Test.YtcakmchefbohoaaGreatDoorMem
import Derived.Test.YtcakmchefbohoaaGreatDoorMath
import Derived.Test.YtcakmchefbohoaaGreatDoorOpenI
import Derived.Test.YtcakmchefbohoaaGreatDoorHelpI
import Derived.Test.YtcakmchefbohoaaGreatDoorGrid
import Derived.Test.YtcakmchefbohoaaGreatDoorLab
import Derived.Test.YtcakmchefbohoaaGreatDoorDec
import Derived.Test.YtcakmchefbohoaaGreatDoorNode
import Derived.Test.YtcakmchefbohoaaGreatDoorReg
import Derived.WalkKit
import Derived.BigQuiet
import Derived.BigRegion
import Derived.Deep.QuietTactic
import Derived.Laws.ResultCell
import Derived.Deep.RegionHeld3
import Derived.Laws.OwnMore
import Derived.Lib.Hide
import Derived.Outline
set_option linter.unusedVariables false
set_option linter.unusedSimpArgs false
namespace Go.Proofs.YtcakmchefbohoaaGreatDoor
open Go.RowKit

/-- The digits of a, none for 0. -/
def decM (a : Nat) : List UInt8 := if a = 0 then [] else Lib.decDigits a
theorem decM_step {a : Nat} (h : 0 < a) : decM a = decM (a / 10) ++ [UInt8.ofNat (48 + a % 10)] := by
  unfold decM
  rw [if_neg (by omega)]
  by_cases h10 : a < 10
  · rw [if_pos (by omega), Lib.decDigits, dif_pos h10, Nat.mod_eq_of_lt h10]; rfl
  · rw [if_neg (by omega)]
    conv => lhs; rw [Lib.decDigits, dif_neg h10]
theorem digitM {D : Nat} (h : D ≤ 9) : (UInt8.ofNat (48 + D)).toNat = 48 + D := by
  rw [UInt8.toNat_ofNat']
  omega
def markT (k : Nat) : ByteArray := ⟨(109 :: Lib.decDigits k).toArray⟩
theorem byte_cons (b : UInt8) (l : List UInt8) : (⟨(b :: l).toArray⟩ : ByteArray) = ⟨#[b]⟩ ++ ⟨l.toArray⟩ := by
  apply ByteArray.ext
  rw [ByteArray.data_append]
  simp
set_option maxRecDepth 100000 in
set_option maxHeartbeats 800000 in
theorem markText_any (k : Nat) (w : World) (h0 : 0 < k) (h1 : k ≤ 1000000000) :
    Calls Tryz.prog 44 #[.int .i64 k] w fun e w' => e = .returned (.string (markT k)) ∧ Below w.heap.size w w' := by
  have HL : Hid ((Lib.decDigits k).length ≤ 20) := Lib.hid (by rw [Lib.decDigits_length]; exact nDigits_le 19 k (by omega))
  have HM : Hid (markT k = ⟨(109 :: Lib.decDigits k).toArray⟩) := Lib.hid rfl
  go_enter Tryz.func44, Tryz.ntmps44
  go_wp2
  go_loopw [0, 3] (fun sk so wr => ∃ (a : Nat) (l : List UInt8), a ≤ k ∧ sk = .int .i64 (a : Int) ∧ so = .string ⟨l.toArray⟩ ∧ Hid (Lib.decDigits k = decM a ++ l) ∧ Below w.heap.size w wr) (fun sk _ _ => (intOf sk).toNat)
  case atStart => exact ⟨k, [], Nat.le_refl _, rfl, rfl, Lib.hid (by rw [decM, if_neg (by omega)]; simp), Below.refl _ _⟩
  case round =>
    obtain ⟨a, l, ha, rfl, rfl, HD, hbl⟩ := hrel
    by_cases ha0 : 0 < a
    · have HD2 : Hid (Lib.decDigits k = decM (a / 10) ++ (UInt8.ofNat (48 + a % 10) :: l)) := Lib.hid (by rw [HD.out, decM_step ha0]; simp)
      obtain ⟨D, hD⟩ : ∃ D, D = a % 10 := ⟨_, rfl⟩
      obtain ⟨q, hq⟩ : ∃ q, q = a / 10 := ⟨_, rfl⟩
      have hD9 : D ≤ 9 := by omega
      have hqa : q < a := by omega
      rw [← hD, ← hq] at HD2
      have e1 : (a : Int).tmod 10 = (D : Int) := by rw [hD]; exact (Int.ofNat_tmod a 10).symm
      have e2 : (a : Int).tdiv 10 = (q : Int) := by rw [hq]; exact (Int.ofNat_tdiv a 10).symm
      have e3 : a % 10 = D := hD.symm
      have e4 : a / 10 = q := hq.symm
      have hll : l.length ≤ 20 := by
        have := HL.out
        rw [HD.out, List.length_append] at this
        omega
      clear hD hq
      have hcv := run_convert_bytes_back (P := Tryz.prog) (wr.alloc (.cells #[.int .u8 (48 + (D : Int))] 5)) 109 9 5 ⟨wr.heap.size, 0, none⟩ 1 [UInt8.ofNat (48 + D)] Tryz.underlying109 Tryz.underlying5 Tryz.underlying9 (fun j hj => by
        have hj0 : j = 0 := by simp at hj; omega
        subst hj0
        rw [Addr.add_lit, cell_of_row _ _ _ _ _ _ (heap_alloc_new wr _)]
        simp [digitM hD9]
        omega)
      rw [show [UInt8.ofNat (48 + D)].length = 1 from rfl] at hcv
      go_wp2
      go_roundw
      case rel => exact ⟨q, UInt8.ofNat (48 + D) :: l, by omega, rfl, by rw [byte_cons (UInt8.ofNat (48 + D)) l]; simp, HD2, hbl.alloc hbl.size _⟩
      case measure => simp [intOf]; omega
    · obtain rfl : a = 0 := by omega
      have HX : Hid (Lib.decDigits k = l) := Lib.hid (by rw [HD.out, decM, if_pos rfl]; rfl)
      rw [HX.out] at HL HM
      have hll := HL.out
      go_wp2
      go_ret
      refine ⟨?_, hbl⟩
      rw [HM.out, byte_cons]; rfl
theorem markText_any' (k : Int) (w : World) (h0 : 0 < k) (h1 : k ≤ 1000000000) :
    Calls Tryz.prog 44 #[.int .i64 k] w fun e w' => e = .returned (.string (markT k.toNat)) ∧ Below w.heap.size w w' := by
  obtain ⟨n, rfl⟩ := Int.eq_ofNat_of_zero_le (show 0 ≤ k by omega)
  exact markText_any n w (by omega) (by omega)
theorem markText_x (k : Int) (X : ByteArray) (w : World) (h0 : 0 < k) (h1 : k ≤ 1000000000) (hX : X = markT k.toNat) :
    Calls Tryz.prog 44 #[.int .i64 k] w fun e w' => e = .returned (.string X) ∧ Below w.heap.size w w' := by
  rw [hX]; exact markText_any' k w h0 h1
theorem held_two {wr W W1 : World} {b x0 x1 : Nat} {u0 u1 : Value} (hbz : Below W.heap.size W W1)
    (h : Below wr.heap.size wr W ∧ W.cell? ⟨b, x0, none⟩ = some u0 ∧ W.cell? ⟨b, x1, none⟩ = some u1) (hb : b < wr.heap.size) :
    Below wr.heap.size wr W1 ∧ W1.cell? ⟨b, x0, none⟩ = some u0 ∧ W1.cell? ⟨b, x1, none⟩ = some u1 := by
  obtain ⟨h0, h1, h2⟩ := h
  have hlt : b < W.heap.size := Nat.lt_of_lt_of_le hb h0.size
  exact ⟨below_trans' h0 hbz, (hbz.cell (by exact hlt)).trans h1, (hbz.cell (by exact hlt)).trans h2⟩
theorem In.base {w : World} {lo hi sz : Nat} {a : Option Addr} {n cap : Nat} {cs : Nat → Value} (h : In w lo hi sz (.slice a n cap) n cs) (hn : 0 < n) : ∃ b o, a = some ⟨b, o, none⟩ := by
  obtain ⟨a', cap', e, h1, h2, h3⟩ := h
  cases e
  obtain ⟨b, o, rfl, _⟩ := h3 hn
  exact ⟨b, o, rfl⟩
theorem In.at {w : World} {lo hi sz b o n cap : Nat} {cs : Nat → Value} (h : In w lo hi sz (.slice (some ⟨b, o, none⟩) n cap) n cs) {k : Nat} {p : Addr} (hk : k < n * sz) (hp : p = ⟨b, o + k, none⟩) :
    w.cell? p = some (cs k) ∧ w.frozen? p = false ∧ lo ≤ b ∧ b < hi ∧ b < w.heap.size := by
  obtain ⟨a', cap', e, h1, h2, h3⟩ := h
  cases e
  obtain ⟨b', o', e, q1, q2, q3, q4⟩ := h3 (Nat.pos_of_ne_zero fun e => by subst e; simp at hk)
  cases e
  subst hp
  exact ⟨(q4 k hk).1, (q4 k hk).2, q1, q2, q3⟩
theorem In_put {w : World} {lo hi sz b o n cap : Nat} {cs : Nat → Value} (h : In w lo hi sz (.slice (some ⟨b, o, none⟩) n cap) n cs) {k : Nat} {p : Addr} (hk : k < n * sz) (hp : p = ⟨b, o + k, none⟩) (x : Value) :
    In (w.setCell p x) lo hi sz (.slice (some ⟨b, o, none⟩) n cap) n (fun i => if i = k then x else cs i) := by
  obtain ⟨a', cap', e, h1, h2, h3⟩ := h
  cases e
  obtain ⟨b', o', e, q1, q2, q3, q4⟩ := h3 (Nat.pos_of_ne_zero fun e => by subst e; simp at hk)
  cases e
  subst hp
  refine ⟨_, cap, rfl, h1, h2, fun _ => ⟨b, o, rfl, q1, q2, by rw [size_setCell]; exact q3, fun i hi => ?_⟩⟩
  refine ⟨?_, by rw [frozen_setCell]; exact (q4 i hi).2⟩
  by_cases e : i = k
  · subst e
    simp only [if_true]
    exact World.cell?_setCell_same _ _ _ (q4 i hi).1
  · simp only [if_neg e]
    rw [World.cell?_setCell_other _ _ _ _ (addr_ne (by omega))]
    exact (q4 i hi).1
theorem In_same {w : World} {lo hi sz : Nat} {v : Value} {n : Nat} {cs cs' : Nat → Value} (h : In w lo hi sz v n cs) (hcs : ∀ i, i < n * sz → cs' i = cs i) : In w lo hi sz v n cs' := by
  obtain ⟨a, cap, rfl, h1, h2, h3⟩ := h
  refine ⟨a, cap, rfl, h1, h2, fun hn => ?_⟩
  obtain ⟨b, o, rfl, q1, q2, q3, q4⟩ := h3 hn
  exact ⟨b, o, rfl, q1, q2, q3, fun i hi => ⟨by rw [hcs i hi]; exact (q4 i hi).1, (q4 i hi).2⟩⟩
theorem In.stayed {w w' : World} {lo hi sz : Nat} {v : Value} {n : Nat} {cs : Nat → Value} (h : In w lo hi sz v n cs) (hb : Below w.heap.size w w') : In w' lo hi sz v n cs :=
  h.stay hb.size fun k _ _ h3 => hb.block k h3
theorem _root_.Go.RowKit.Below.mods {w w' : World} (h : Below w.heap.size w w') (lo hi : Nat) : Mod lo hi w w' := ⟨h.os, h.tape, h.output, h.size, fun k hk _ => h.block k hk⟩
--TAIL
def mkNd (m : Int) : Nd := ⟨m, m + 1, markT (m + 1 + 1).toNat, decide ((m + 1 + 1 + 1) % 3 = 0)⟩
def marksNd (m : Int) (n : Nat) : List Nd := (List.range n).map fun (i : Nat) => mkNd (m + (i : Int) * 4)
theorem marksNd_len (m : Int) (n : Nat) : (marksNd m n).length = n := by simp [marksNd]
theorem ndnth_marks (m : Int) (n i : Nat) (h : i < n) : ndnth (marksNd m n) i = mkNd (m + (i : Int) * 4) := by simp [ndnth, marksNd, h]
def mixNd (m : Int) (n k : Nat) (f : List Nd) (i : Nat) : Value := if i < k * 4 then ndc (marksNd m n) i else ndc f i
set_option maxRecDepth 100000 in
set_option maxHeartbeats 1600000 in
theorem markNodeS_any (lo hi : Nat) (v : Value) (f : List Nd) (m : Int) (w : World) (hn : f.length ≤ 1048576) (h0 : 0 < m) (hm : m ≤ 100000000) (hv : InNd w lo hi v f) :
    Calls Tryz.prog 17 #[v, .int .i64 m] w fun e w' => e = .returned (.int .i64 (m + (f.length : Int) * 4)) ∧ InNd w' lo hi v (marksNd m f.length) ∧ Mod lo hi w w' := by
  have HV := Lib.hid hv
  obtain ⟨a, cap, rfl, hcap, hcm, hv⟩ := hv
  unfold maxLen at hcm
  obtain ⟨n, hxn⟩ : ∃ n, n = f.length := ⟨_, rfl⟩
  unfold InNd at HV ⊢
  rw [marksNd_len]
  rw [← hxn] at hcap HV hn ⊢
  have Hxn := Lib.hid hxn; clear hxn hv
  go_enter Tryz.func17, Tryz.ntmps17
  go_wp2_with fail
  go_loopw [1, 5] (fun sk si wr => ∃ k : Nat, k ≤ n ∧ si = .int .i64 k ∧ sk = .int .i64 (m + (k : Int) * 4) ∧ Hid (In wr lo hi 4 (.slice a n cap) n (mixNd m n k f)) ∧ Hid (Mod lo hi w wr))
    (fun _ si _ => n - (intOf si).toNat)
  case atStart => exact ⟨0, Nat.zero_le _, rfl, by simp, Lib.hid (In_same HV.out fun i _ => by unfold mixNd; rw [if_neg (by omega)]), Lib.hid (Mod.refl _ _ _)⟩
  case round =>
    obtain ⟨k, hk, rfl, rfl, HI, HM⟩ := hrel
    by_cases hlt : k < n
    · obtain ⟨b, o, rfl⟩ := HI.out.base (by omega)
      obtain ⟨p0, z0, hl0, hh0, hs0⟩ := HI.out.at (k := k * 4) (p := ⟨b, o + k * 4, none⟩) (by omega) rfl
      obtain ⟨p1, z1, _⟩ := HI.out.at (k := k * 4 + 1) (p := ⟨b, o + k * 4 + 1, none⟩) (by omega) (by rw [← Nat.add_assoc])
      obtain ⟨p2, z2, _⟩ := HI.out.at (k := k * 4 + 2) (p := ⟨b, o + k * 4 + 2, none⟩) (by omega) (by rw [← Nat.add_assoc])
      obtain ⟨p3, z3, _⟩ := HI.out.at (k := k * 4 + 3) (p := ⟨b, o + k * 4 + 3, none⟩) (by omega) (by rw [← Nat.add_assoc])
      obtain ⟨M, hM⟩ : ∃ M, M = m + (k : Int) * 4 := ⟨_, rfl⟩
      have Hm2 : Hid (m + ((k + 1 : Nat) : Int) * 4 = M + 1 + 1 + 1 + 1) := Lib.hid (by omega)
      have HMx := Lib.hid hM
      rw [← hM]
      have hM0 : 0 < M := by omega
      have hM1 : M ≤ 1000000000 - 10 := by omega
      clear hM
      have i0 := In_put HI.out (k := k * 4) (p := ⟨b, o + k * 4, none⟩) (by omega) (by rfl) (.int .i64 M)
      have i1 := In_put i0 (k := k * 4 + 1) (p := ⟨b, o + k * 4 + 1, none⟩) (by omega) (by rw [← Nat.add_assoc]) (.int .i64 (M + 1))
      have I1 := Lib.hid i1
      have M1 := Lib.hid (((HM.out).setCell (p := ⟨b, o + k * 4, none⟩) hl0 hh0 (.int .i64 M)).setCell (p := ⟨b, o + k * 4 + 1, none⟩) hl0 hh0 (.int .i64 (M + 1)))
      clear i0 i1
      go_wp2_with fail
      refine (markText_any' (M + 1 + 1) _ (by omega) (by omega)).mono ?_
      rintro e w1 ⟨rfl, hb1⟩
      have I2 := I1.out.stayed hb1
      have M2 := M1.out.trans (hb1.mods lo hi)
      obtain ⟨q2, y2, _, _, g2⟩ := I2.at (k := k * 4 + 2) (p := ⟨b, o + k * 4 + 2, none⟩) (by omega) (by rw [← Nat.add_assoc])
      obtain ⟨q3, y3, _, _, g3⟩ := I2.at (k := k * 4 + 3) (p := ⟨b, o + k * 4 + 3, none⟩) (by omega) (by rw [← Nat.add_assoc])
      obtain ⟨B, hB⟩ : ∃ B, B = decide ((M + 1 + 1 + 1) % 3 = 0) := ⟨_, rfl⟩
      have i2 := In_put I2 (k := k * 4 + 2) (p := ⟨b, o + k * 4 + 2, none⟩) (by omega) (by rw [← Nat.add_assoc]) (.string (markT (M + 1 + 1).toNat))
      have i3 := In_put i2 (k := k * 4 + 3) (p := ⟨b, o + k * 4 + 3, none⟩) (by omega) (by rw [← Nat.add_assoc]) (.bool B)
      have HJ : Hid (In _ lo hi 4 (.slice (some ⟨b, o, none⟩) n cap) n (mixNd m n (k + 1) f)) := Lib.hid (In_same i3 fun i hi => by
        unfold mixNd
        by_cases h3 : i = k * 4 + 3
        · rw [if_pos (by omega), h3, ndc_at _ k 3 (by decide), ndnth_marks _ _ _ hlt, ← HMx.out]; simp [mkNd, ndv, hB]
        by_cases h2 : i = k * 4 + 2
        · rw [if_pos (by omega), h2, ndc_at _ k 2 (by decide), ndnth_marks _ _ _ hlt, ← HMx.out]; simp [mkNd, ndv, hB]
        by_cases h1 : i = k * 4 + 1
        · rw [if_pos (by omega), h1, ndc_at _ k 1 (by decide), ndnth_marks _ _ _ hlt, ← HMx.out]; simp [mkNd, ndv, hB]
        by_cases h0 : i = k * 4
        · rw [if_pos (by omega), h0, show k * 4 = k * 4 + 0 from rfl, ndc_at _ k 0 (by decide), ndnth_marks _ _ _ hlt, ← HMx.out]; simp [mkNd, ndv, hB]
        by_cases hk4 : i < k * 4
        · rw [if_pos (by omega)]; simp [h0, h1, h2, h3, hk4]
        · rw [if_neg (by omega)]; simp [h0, h1, h2, h3, hk4])
      have HN := Lib.hid (((M2).setCell (p := ⟨b, o + k * 4 + 2, none⟩) hl0 hh0 (.string (markT (M + 1 + 1).toNat))).setCell (p := ⟨b, o + k * 4 + 3, none⟩) hl0 hh0 (.bool B))
      have hBb : ((M + 1 + 1 + 1) % 3 == 0) = B := by rw [hB]; rfl
      clear hB i2 i3 I2 M2 HI HM I1 M1
      go_wp2_with fail
      go_roundw
      case rel => exact ⟨k + 1, by omega, by go_num, by rw [Hm2.out], HJ, HN⟩
      case measure => simp [intOf]; omega
    · obtain rfl : k = n := by omega
      go_wp2_with fail
      go_ret
      exact ⟨rfl, In_same HI.out fun i hi => by unfold mixNd; rw [if_pos hi], HM.out⟩
set_option maxRecDepth 100000 in
set_option maxHeartbeats 1600000 in
theorem heldNodeS_any (v : Value) (m : Int) (n : Nat) (w : World) (hn : n ≤ 1048576) (h0 : 0 < m) (hm : m ≤ 100000000) (hv : RdNd w v (marksNd m n)) :
    Calls Tryz.prog 18 #[v, .int .i64 m] w fun e w' => e = .returned (.int .i64 (m + (n : Int) * 4)) ∧ Below w.heap.size w w' := by
  have HV := Lib.hid hv
  have HL := Lib.hid (marksNd_len m n)
  obtain ⟨a, cap, rfl, hcap, hcm, hv⟩ := hv
  unfold maxLen at hcm
  rw [HL.out] at hcap HV ⊢
  clear hv
  go_enter Tryz.func18, Tryz.ntmps18
  go_wp2_with fail
  go_loopw [1, 5] (fun sk si wr => ∃ k : Nat, k ≤ n ∧ si = .int .i64 k ∧ sk = .int .i64 (m + (k : Int) * 4) ∧ Below w.heap.size w wr)
    (fun _ si _ => n - (intOf si).toNat)
  case atStart => exact ⟨0, Nat.zero_le _, rfl, by simp, Below.refl _ _⟩
  case round =>
    obtain ⟨k, hk, rfl, rfl, hbl⟩ := hrel
    by_cases hlt : k < n
    · obtain ⟨b, o, rfl, hb, g0, g1, g2, g3⟩ := RdNd.cells HV.out (i := k) (by rw [HL.out]; exact hlt)
      rw [ndnth_marks _ _ _ hlt] at g0 g1 g2 g3
      obtain ⟨M, hM⟩ : ∃ M, M = m + (k : Int) * 4 := ⟨_, rfl⟩
      have Hm2 : Hid (m + ((k + 1 : Nat) : Int) * 4 = M + 1 + 1 + 1 + 1) := Lib.hid (by omega)
      rw [← hM] at g0 g1 g2 g3 ⊢
      have hM0 : 0 < M := by omega
      have hM1 : M ≤ 1000000000 - 10 := by omega
      clear hM
      simp only [mkNd] at g0 g1 g2 g3
      have q0 := (hbl.cell (by exact hb)).trans g0
      have q1 := (hbl.cell (by exact hb)).trans g1
      have q2 := (hbl.cell (by exact hb)).trans g2
      have q3 := (hbl.cell (by exact hb)).trans g3
      obtain ⟨B, hB⟩ : ∃ B, B = decide ((M + 1 + 1 + 1) % 3 = 0) := ⟨_, rfl⟩
      have hBb : ((M + 1 + 1 + 1) % 3 == 0) = B := by rw [hB]; rfl
      rw [← hB] at q3
      have hblo := hbl.size
      clear hB g0 g1 g2 g3
      go_wp2_with fail

      obtain ⟨X, hX⟩ : ∃ X, X = markT (M + 1 + 1).toNat := ⟨_, rfl⟩
      rw [← hX] at q2
      have hd0 : Below wr.heap.size wr wr.drew := Below.drew (Below.refl _ _)
      have hbw : b < wr.heap.size := Nat.lt_of_lt_of_le hb hblo
      go_region_held3 (fun W => Below wr.heap.size wr W ∧ W.cell? ⟨b, o + k * 4 + 2, none⟩ = some (.string X) ∧ W.cell? ⟨b, o + k * 4 + 3, none⟩ = some (.bool B)) ((first | exact ⟨hd0, q2, q3⟩ | exact held_two (by assumption) (by assumption) hbw)) ((first | (go_at_call 44; refine (markText_x _ X _ (by omega) (by omega) hX).mono ?_; rintro e w1 ⟨rfl, hb1⟩) | fail))
      all_goals obtain ⟨hW0, hW1, hW2⟩ := (by assumption : Below wr.heap.size wr _ ∧ _ ∧ _)
      all_goals have hbl1 := below_trans' hbl hW0
      all_goals go_wp2_with fail
      go_roundw
      case rel => exact ⟨k + 1, by omega, by go_num, by rw [Hm2.out], hbl1⟩
      case measure => simp [intOf]; omega
    · obtain rfl : k = n := by omega
      go_wp2_with fail
      go_ret
      exact ⟨rfl, hbl⟩
def mkRg (m : Int) : Rg := ⟨m, markT (m + 1).toNat, decide ((m + 1 + 1) % 3 = 0)⟩
def marksRg (m : Int) (n : Nat) : List Rg := (List.range n).map fun (i : Nat) => mkRg (m + (i : Int) * 3)
theorem marksRg_len (m : Int) (n : Nat) : (marksRg m n).length = n := by simp [marksRg]
theorem rgnth_marks (m : Int) (n i : Nat) (h : i < n) : rgnth (marksRg m n) i = mkRg (m + (i : Int) * 3) := by simp [rgnth, marksRg, h]
def mixRg (m : Int) (n k : Nat) (f : List Rg) (i : Nat) : Value := if i < k * 3 then rgc (marksRg m n) i else rgc f i
set_option maxRecDepth 100000 in
set_option maxHeartbeats 1600000 in
theorem markRegS_any (lo hi : Nat) (v : Value) (f : List Rg) (m : Int) (w : World) (hn : f.length ≤ 1048576) (h0 : 0 < m) (hm : m ≤ 100000000) (hv : InRg w lo hi v f) :
    Calls Tryz.prog 16 #[v, .int .i64 m] w fun e w' => e = .returned (.int .i64 (m + (f.length : Int) * 3)) ∧ InRg w' lo hi v (marksRg m f.length) ∧ Mod lo hi w w' := by
  have HV := Lib.hid hv
  obtain ⟨a, cap, rfl, hcap, hcm, hv⟩ := hv
  unfold maxLen at hcm
  obtain ⟨n, hxn⟩ : ∃ n, n = f.length := ⟨_, rfl⟩
  unfold InRg at HV ⊢
  rw [marksRg_len]
  rw [← hxn] at hcap HV hn ⊢
  have Hxn := Lib.hid hxn; clear hxn hv
  go_enter Tryz.func16, Tryz.ntmps16
  go_wp2_with fail
  go_loopw [1, 5] (fun sk si wr => ∃ k : Nat, k ≤ n ∧ si = .int .i64 k ∧ sk = .int .i64 (m + (k : Int) * 3) ∧ Hid (In wr lo hi 3 (.slice a n cap) n (mixRg m n k f)) ∧ Hid (Mod lo hi w wr))
    (fun _ si _ => n - (intOf si).toNat)
  case atStart => exact ⟨0, Nat.zero_le _, rfl, by simp, Lib.hid (In_same HV.out fun i _ => by unfold mixRg; rw [if_neg (by omega)]), Lib.hid (Mod.refl _ _ _)⟩
  case round =>
    obtain ⟨k, hk, rfl, rfl, HI, HM⟩ := hrel
    by_cases hlt : k < n
    · obtain ⟨b, o, rfl⟩ := HI.out.base (by omega)
      obtain ⟨p0, z0, hl0, hh0, hs0⟩ := HI.out.at (k := k * 3) (p := ⟨b, o + k * 3, none⟩) (by omega) rfl
      obtain ⟨p1, z1, _⟩ := HI.out.at (k := k * 3 + 1) (p := ⟨b, o + k * 3 + 1, none⟩) (by omega) (by rw [← Nat.add_assoc])
      obtain ⟨p2, z2, _⟩ := HI.out.at (k := k * 3 + 2) (p := ⟨b, o + k * 3 + 2, none⟩) (by omega) (by rw [← Nat.add_assoc])
      obtain ⟨M, hM⟩ : ∃ M, M = m + (k : Int) * 3 := ⟨_, rfl⟩
      have Hm2 : Hid (m + ((k + 1 : Nat) : Int) * 3 = M + 1 + 1 + 1) := Lib.hid (by omega)
      have HMx := Lib.hid hM
      rw [← hM]
      have hM0 : 0 < M := by omega
      have hM1 : M ≤ 1000000000 - 10 := by omega
      clear hM
      have i0 := In_put HI.out (k := k * 3) (p := ⟨b, o + k * 3, none⟩) (by omega) (by rfl) (.int .i64 M)
      have I1 := Lib.hid i0
      have M1 := Lib.hid ((HM.out).setCell (p := ⟨b, o + k * 3, none⟩) hl0 hh0 (.int .i64 M))
      clear i0
      go_wp2_with fail
      refine (markText_any' (M + 1) _ (by omega) (by omega)).mono ?_
      rintro e w1 ⟨rfl, hb1⟩
      have I2 := I1.out.stayed hb1
      have M2 := M1.out.trans (hb1.mods lo hi)
      obtain ⟨q1, y1, _, _, g1⟩ := I2.at (k := k * 3 + 1) (p := ⟨b, o + k * 3 + 1, none⟩) (by omega) (by rw [← Nat.add_assoc])
      obtain ⟨q2, y2, _, _, g2⟩ := I2.at (k := k * 3 + 2) (p := ⟨b, o + k * 3 + 2, none⟩) (by omega) (by rw [← Nat.add_assoc])
      obtain ⟨B, hB⟩ : ∃ B, B = decide ((M + 1 + 1) % 3 = 0) := ⟨_, rfl⟩
      have i1 := In_put I2 (k := k * 3 + 1) (p := ⟨b, o + k * 3 + 1, none⟩) (by omega) (by rw [← Nat.add_assoc]) (.string (markT (M + 1).toNat))
      have i2 := In_put i1 (k := k * 3 + 2) (p := ⟨b, o + k * 3 + 2, none⟩) (by omega) (by rw [← Nat.add_assoc]) (.bool B)
      have HJ : Hid (In _ lo hi 3 (.slice (some ⟨b, o, none⟩) n cap) n (mixRg m n (k + 1) f)) := Lib.hid (In_same i2 fun i hi => by
        unfold mixRg
        by_cases h2 : i = k * 3 + 2
        · rw [if_pos (by omega), h2, rgc_at _ k 2 (by decide), rgnth_marks _ _ _ hlt, ← HMx.out]; simp [mkRg, rgv, hB]
        by_cases h1 : i = k * 3 + 1
        · rw [if_pos (by omega), h1, rgc_at _ k 1 (by decide), rgnth_marks _ _ _ hlt, ← HMx.out]; simp [mkRg, rgv, hB]
        by_cases h0 : i = k * 3
        · rw [if_pos (by omega), h0, show k * 3 = k * 3 + 0 from rfl, rgc_at _ k 0 (by decide), rgnth_marks _ _ _ hlt, ← HMx.out]; simp [mkRg, rgv, hB]
        by_cases hk4 : i < k * 3
        · rw [if_pos (by omega)]; simp [h0, h1, h2, hk4]
        · rw [if_neg (by omega)]; simp [h0, h1, h2, hk4])
      have HN := Lib.hid (((M2).setCell (p := ⟨b, o + k * 3 + 1, none⟩) hl0 hh0 (.string (markT (M + 1).toNat))).setCell (p := ⟨b, o + k * 3 + 2, none⟩) hl0 hh0 (.bool B))
      have hBb : ((M + 1 + 1) % 3 == 0) = B := by rw [hB]; rfl
      clear hB i1 i2 I2 M2 HI HM I1 M1
      go_wp2_with fail
      go_roundw
      case rel => exact ⟨k + 1, by omega, by go_num, by rw [Hm2.out], HJ, HN⟩
      case measure => simp [intOf]; omega
    · obtain rfl : k = n := by omega
      go_wp2_with fail
      go_ret
      exact ⟨rfl, In_same HI.out fun i hi => by unfold mixRg; rw [if_pos hi], HM.out⟩
set_option maxRecDepth 100000 in
set_option maxHeartbeats 1600000 in
theorem heldRegS_any (v : Value) (m : Int) (n : Nat) (w : World) (hn : n ≤ 1048576) (h0 : 0 < m) (hm : m ≤ 100000000) (hv : RdRg w v (marksRg m n)) :
    Calls Tryz.prog 28 #[v, .int .i64 m] w fun e w' => e = .returned (.int .i64 (m + (n : Int) * 3)) ∧ Below w.heap.size w w' := by
  have HV := Lib.hid hv
  have HL := Lib.hid (marksRg_len m n)
  obtain ⟨a, cap, rfl, hcap, hcm, hv⟩ := hv
  unfold maxLen at hcm
  rw [HL.out] at hcap HV ⊢
  clear hv
  go_enter Tryz.func28, Tryz.ntmps28
  go_wp2_with fail
  go_loopw [1, 5] (fun sk si wr => ∃ k : Nat, k ≤ n ∧ si = .int .i64 k ∧ sk = .int .i64 (m + (k : Int) * 3) ∧ Below w.heap.size w wr)
    (fun _ si _ => n - (intOf si).toNat)
  case atStart => exact ⟨0, Nat.zero_le _, rfl, by simp, Below.refl _ _⟩
  case round =>
    obtain ⟨k, hk, rfl, rfl, hbl⟩ := hrel
    by_cases hlt : k < n
    · obtain ⟨b, o, rfl, hb, g0, g1, g2⟩ := RdRg.cells HV.out (i := k) (by rw [HL.out]; exact hlt)
      rw [rgnth_marks _ _ _ hlt] at g0 g1 g2
      obtain ⟨M, hM⟩ : ∃ M, M = m + (k : Int) * 3 := ⟨_, rfl⟩
      have Hm2 : Hid (m + ((k + 1 : Nat) : Int) * 3 = M + 1 + 1 + 1) := Lib.hid (by omega)
      rw [← hM] at g0 g1 g2 ⊢
      have hM0 : 0 < M := by omega
      have hM1 : M ≤ 1000000000 - 10 := by omega
      clear hM
      simp only [mkRg] at g0 g1 g2
      have q0 := (hbl.cell (by exact hb)).trans g0
      have q1 := (hbl.cell (by exact hb)).trans g1
      have q2 := (hbl.cell (by exact hb)).trans g2
      obtain ⟨B, hB⟩ : ∃ B, B = decide ((M + 1 + 1) % 3 = 0) := ⟨_, rfl⟩
      have hBb : ((M + 1 + 1) % 3 == 0) = B := by rw [hB]; rfl
      rw [← hB] at q2
      have hblo := hbl.size
      clear hB g0 g1 g2
      go_wp2_with fail

      obtain ⟨X, hX⟩ : ∃ X, X = markT (M + 1).toNat := ⟨_, rfl⟩
      rw [← hX] at q1
      have hd0 : Below wr.heap.size wr wr.drew := Below.drew (Below.refl _ _)
      have hbw : b < wr.heap.size := Nat.lt_of_lt_of_le hb hblo
      go_region_held3 (fun W => Below wr.heap.size wr W ∧ W.cell? ⟨b, o + k * 3 + 1, none⟩ = some (.string X) ∧ W.cell? ⟨b, o + k * 3 + 2, none⟩ = some (.bool B)) ((first | exact ⟨hd0, q1, q2⟩ | exact held_two (by assumption) (by assumption) hbw)) ((first | (go_at_call 44; refine (markText_x _ X _ (by omega) (by omega) hX).mono ?_; rintro e w1 ⟨rfl, hb1⟩) | fail))
      all_goals obtain ⟨hW0, hW1, hW2⟩ := (by assumption : Below wr.heap.size wr _ ∧ _ ∧ _)
      all_goals have hbl1 := below_trans' hbl hW0
      all_goals go_wp2_with fail
      go_roundw
      case rel => exact ⟨k + 1, by omega, by go_num, by rw [Hm2.out], hbl1⟩
      case measure => simp [intOf]; omega
    · obtain rfl : k = n := by omega
      go_wp2_with fail
      go_ret
      exact ⟨rfl, hbl⟩
end Go.Proofs.YtcakmchefbohoaaGreatDoor
