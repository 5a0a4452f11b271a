/- The laws' own helper that writes a mark as text. -/
import Derived.Test.YtcakmchefbohoaaDoorProg
import Derived.Test.YtcakmchefbohoaaDoorMem
import Derived.Test.YtcakmchefbohoaaDoorMath
import Derived.Test.YtcakmchefbohoaaDoorOpenI
import Derived.Test.YtcakmchefbohoaaDoorHelpI
import Derived.Test.YtcakmchefbohoaaDoorGrid
import Derived.Test.YtcakmchefbohoaaDoorLab
import Derived.Test.YtcakmchefbohoaaDoorDec
import Derived.WalkKit
import Derived.BigQuiet
import Derived.BigRegion
import Derived.Deep.QuietTactic
import Derived.Laws.ResultCell
import Derived.Deep.RegionHeld3
import Derived.Laws.OwnMore
import Derived.Lib.Hide
import Derived.Outline
set_option linter.unusedVariables false
set_option linter.unusedSimpArgs false
namespace Go.Proofs.YtcakmchefbohoaaDoor
open Go.RowKit

/-- The digits of a, none for 0. -/
def decM (a : Nat) : List UInt8 := if a = 0 then [] else Lib.decDigits a
theorem decM_step {a : Nat} (h : 0 < a) : decM a = decM (a / 10) ++ [UInt8.ofNat (48 + a % 10)] := by
  unfold decM
  rw [if_neg (by omega)]
  by_cases h10 : a < 10
  · rw [if_pos (by omega), Lib.decDigits, dif_pos h10, Nat.mod_eq_of_lt h10]; rfl
  · rw [if_neg (by omega)]
    conv => lhs; rw [Lib.decDigits, dif_neg h10]
theorem digitM {D : Nat} (h : D ≤ 9) : (UInt8.ofNat (48 + D)).toNat = 48 + D := by
  rw [UInt8.toNat_ofNat']
  omega
def markT (k : Nat) : ByteArray := ⟨(109 :: Lib.decDigits k).toArray⟩
theorem byte_cons (b : UInt8) (l : List UInt8) : (⟨(b :: l).toArray⟩ : ByteArray) = ⟨#[b]⟩ ++ ⟨l.toArray⟩ := by
  apply ByteArray.ext
  rw [ByteArray.data_append]
  simp
set_option maxRecDepth 100000 in
set_option maxHeartbeats 800000 in
theorem markText_any (k : Nat) (w : World) (h0 : 0 < k) (h1 : k ≤ 1000000000) :
    Calls Tryd.prog 15 #[.int .i64 k] w fun e w' => e = .returned (.string (markT k)) ∧ Below w.heap.size w w' := by
  have HL : Hid ((Lib.decDigits k).length ≤ 20) := Lib.hid (by rw [Lib.decDigits_length]; exact nDigits_le 19 k (by omega))
  have HM : Hid (markT k = ⟨(109 :: Lib.decDigits k).toArray⟩) := Lib.hid rfl
  go_enter Tryd.func15, Tryd.ntmps15
  go_wp2
  go_loopw [0, 3] (fun sk so wr => ∃ (a : Nat) (l : List UInt8), a ≤ k ∧ sk = .int .i64 (a : Int) ∧ so = .string ⟨l.toArray⟩ ∧ Hid (Lib.decDigits k = decM a ++ l) ∧ Below w.heap.size w wr) (fun sk _ _ => (intOf sk).toNat)
  case atStart => exact ⟨k, [], Nat.le_refl _, rfl, rfl, Lib.hid (by rw [decM, if_neg (by omega)]; simp), Below.refl _ _⟩
  case round =>
    obtain ⟨a, l, ha, rfl, rfl, HD, hbl⟩ := hrel
    by_cases ha0 : 0 < a
    · have HD2 : Hid (Lib.decDigits k = decM (a / 10) ++ (UInt8.ofNat (48 + a % 10) :: l)) := Lib.hid (by rw [HD.out, decM_step ha0]; simp)
      obtain ⟨D, hD⟩ : ∃ D, D = a % 10 := ⟨_, rfl⟩
      obtain ⟨q, hq⟩ : ∃ q, q = a / 10 := ⟨_, rfl⟩
      have hD9 : D ≤ 9 := by omega
      have hqa : q < a := by omega
      rw [← hD, ← hq] at HD2
      have e1 : (a : Int).tmod 10 = (D : Int) := by rw [hD]; exact (Int.ofNat_tmod a 10).symm
      have e2 : (a : Int).tdiv 10 = (q : Int) := by rw [hq]; exact (Int.ofNat_tdiv a 10).symm
      have e3 : a % 10 = D := hD.symm
      have e4 : a / 10 = q := hq.symm
      have hll : l.length ≤ 20 := by
        have := HL.out
        rw [HD.out, List.length_append] at this
        omega
      clear hD hq
      have hcv := run_convert_bytes_back (P := Tryd.prog) (wr.alloc (.cells #[.int .u8 (48 + (D : Int))] 5)) 42 9 5 ⟨wr.heap.size, 0, none⟩ 1 [UInt8.ofNat (48 + D)] Tryd.underlying42 Tryd.underlying5 Tryd.underlying9 (fun j hj => by
        have hj0 : j = 0 := by simp at hj; omega
        subst hj0
        rw [Addr.add_lit, cell_of_row _ _ _ _ _ _ (heap_alloc_new wr _)]
        simp [digitM hD9]
        omega)
      rw [show [UInt8.ofNat (48 + D)].length = 1 from rfl] at hcv
      go_wp2
      go_roundw
      case rel => exact ⟨q, UInt8.ofNat (48 + D) :: l, by omega, rfl, by rw [byte_cons (UInt8.ofNat (48 + D)) l]; simp, HD2, hbl.alloc hbl.size _⟩
      case measure => simp [intOf]; omega
    · obtain rfl : a = 0 := by omega
      have HX : Hid (Lib.decDigits k = l) := Lib.hid (by rw [HD.out, decM, if_pos rfl]; rfl)
      rw [HX.out] at HL HM
      have hll := HL.out
      go_wp2
      go_ret
      refine ⟨?_, hbl⟩
      rw [HM.out, byte_cons]; rfl
theorem markText_any' (k : Int) (w : World) (h0 : 0 < k) (h1 : k ≤ 1000000000) :
    Calls Tryd.prog 15 #[.int .i64 k] w fun e w' => e = .returned (.string (markT k.toNat)) ∧ Below w.heap.size w w' := by
  obtain ⟨n, rfl⟩ := Int.eq_ofNat_of_zero_le (show 0 ≤ k by omega)
  exact markText_any n w (by omega) (by omega)
theorem markText_x (k : Int) (X : ByteArray) (w : World) (h0 : 0 < k) (h1 : k ≤ 1000000000) (hX : X = markT k.toNat) :
    Calls Tryd.prog 15 #[.int .i64 k] w fun e w' => e = .returned (.string X) ∧ Below w.heap.size w w' := by
  rw [hX]; exact markText_any' k w h0 h1
theorem held_two {wr W W1 : World} {b x0 x1 : Nat} {u0 u1 : Value} (hbz : Below W.heap.size W W1)
    (h : Below wr.heap.size wr W ∧ W.cell? ⟨b, x0, none⟩ = some u0 ∧ W.cell? ⟨b, x1, none⟩ = some u1) (hb : b < wr.heap.size) :
    Below wr.heap.size wr W1 ∧ W1.cell? ⟨b, x0, none⟩ = some u0 ∧ W1.cell? ⟨b, x1, none⟩ = some u1 := by
  obtain ⟨h0, h1, h2⟩ := h
  have hlt : b < W.heap.size := Nat.lt_of_lt_of_le hb h0.size
  exact ⟨below_trans' h0 hbz, (hbz.cell (by exact hlt)).trans h1, (hbz.cell (by exact hlt)).trans h2⟩
theorem In.base {w : World} {lo hi sz : Nat} {a : Option Addr} {n cap : Nat} {cs : Nat → Value} (h : In w lo hi sz (.slice a n cap) n cs) (hn : 0 < n) : ∃ b o, a = some ⟨b, o, none⟩ := by
  obtain ⟨a', cap', e, h1, h2, h3⟩ := h
  cases e
  obtain ⟨b, o, rfl, _⟩ := h3 hn
  exact ⟨b, o, rfl⟩
theorem In.at {w : World} {lo hi sz b o n cap : Nat} {cs : Nat → Value} (h : In w lo hi sz (.slice (some ⟨b, o, none⟩) n cap) n cs) {k : Nat} {p : Addr} (hk : k < n * sz) (hp : p = ⟨b, o + k, none⟩) :
    w.cell? p = some (cs k) ∧ w.frozen? p = false ∧ lo ≤ b ∧ b < hi ∧ b < w.heap.size := by
  obtain ⟨a', cap', e, h1, h2, h3⟩ := h
  cases e
  obtain ⟨b', o', e, q1, q2, q3, q4⟩ := h3 (Nat.pos_of_ne_zero fun e => by subst e; simp at hk)
  cases e
  subst hp
  exact ⟨(q4 k hk).1, (q4 k hk).2, q1, q2, q3⟩
theorem In_put {w : World} {lo hi sz b o n cap : Nat} {cs : Nat → Value} (h : In w lo hi sz (.slice (some ⟨b, o, none⟩) n cap) n cs) {k : Nat} {p : Addr} (hk : k < n * sz) (hp : p = ⟨b, o + k, none⟩) (x : Value) :
    In (w.setCell p x) lo hi sz (.slice (some ⟨b, o, none⟩) n cap) n (fun i => if i = k then x else cs i) := by
  obtain ⟨a', cap', e, h1, h2, h3⟩ := h
  cases e
  obtain ⟨b', o', e, q1, q2, q3, q4⟩ := h3 (Nat.pos_of_ne_zero fun e => by subst e; simp at hk)
  cases e
  subst hp
  refine ⟨_, cap, rfl, h1, h2, fun _ => ⟨b, o, rfl, q1, q2, by rw [size_setCell]; exact q3, fun i hi => ?_⟩⟩
  refine ⟨?_, by rw [frozen_setCell]; exact (q4 i hi).2⟩
  by_cases e : i = k
  · subst e
    simp only [if_true]
    exact World.cell?_setCell_same _ _ _ (q4 i hi).1
  · simp only [if_neg e]
    rw [World.cell?_setCell_other _ _ _ _ (addr_ne (by omega))]
    exact (q4 i hi).1
theorem In_same {w : World} {lo hi sz : Nat} {v : Value} {n : Nat} {cs cs' : Nat → Value} (h : In w lo hi sz v n cs) (hcs : ∀ i, i < n * sz → cs' i = cs i) : In w lo hi sz v n cs' := by
  obtain ⟨a, cap, rfl, h1, h2, h3⟩ := h
  refine ⟨a, cap, rfl, h1, h2, fun hn => ?_⟩
  obtain ⟨b, o, rfl, q1, q2, q3, q4⟩ := h3 hn
  exact ⟨b, o, rfl, q1, q2, q3, fun i hi => ⟨by rw [hcs i hi]; exact (q4 i hi).1, (q4 i hi).2⟩⟩
theorem In.stayed {w w' : World} {lo hi sz : Nat} {v : Value} {n : Nat} {cs : Nat → Value} (h : In w lo hi sz v n cs) (hb : Below w.heap.size w w') : In w' lo hi sz v n cs :=
  h.stay hb.size fun k _ _ h3 => hb.block k h3
theorem _root_.Go.RowKit.Below.mods {w w' : World} (h : Below w.heap.size w w') (lo hi : Nat) : Mod lo hi w w' := ⟨h.os, h.tape, h.output, h.size, fun k hk _ => h.block k hk⟩
--TAIL
end Go.Proofs.YtcakmchefbohoaaDoor
