/- Contracts: a list of one number, repeated. -/
import Derived.Test.YtcakmchefbohoaaGreatDoorProg
import Derived.Test.YtcakmchefbohoaaGreatDoorMem
import Derived.Test.YtcakmchefbohoaaGreatDoorMath
import Derived.Test.YtcakmchefbohoaaGreatDoorBasics
import Derived.Test.YtcakmchefbohoaaGreatDoorHelpI
import Derived.Shelf.Bits.Mul64
import Derived.WalkKit
import Derived.BigQuiet
import Derived.BigRegion
import Derived.Deep.QuietTactic
import Derived.Deep.RegionLaw
import Derived.StillTailTactics
import Derived.Laws.CopyOwn
import Derived.Lib.Hide
import Derived.Outline
set_option linter.unusedVariables false
set_option linter.unusedSimpArgs false
namespace Go.Proofs.YtcakmchefbohoaaGreatDoor
open Go.RowKit

theorem mul64_small (n : Nat) (w : World) (hn : n ≤ 1048576) : Calls Tryz.prog 168 #[.int .u64 1, .int .u64 n] w fun e w' => e = .returned (.tuple #[.int .u64 0, .int .u64 n]) ∧ w = w' := by
  have e1 := Mul64.maskN n (by omega)
  have e2 : n % 4294967296 = n := by omega
  rw [e2] at e1
  have e3 : (n : Int) / 4294967296 = 0 := by omega
  have e4 : bits BinOp.and IntKind.u64 1 4294967295 = 1 := by decide
  have e5 : bits BinOp.and IntKind.u64 0 4294967295 = 0 := by decide
  have e6 := Mul64.wrapN n (by omega)
  have e7 : IntKind.u64.wrap 0 = 0 := by decide
  go_enter Tryz.func168, Tryz.ntmps168
  go_wp2_with fail
  go_ret2
  exact ⟨rfl, rfl⟩
theorem mul_small (n : Nat) (w : World) (hn : n ≤ 1048576) : Calls Tryz.prog 139 #[.int .u64 1, .int .u64 n] w fun e w' => e = .returned (.tuple #[.int .u64 0, .int .u64 n]) ∧ w = w' := by
  go_enter Tryz.func139, Tryz.ntmps139
  go_wp2_with fail
  refine (mul64_small n _ hn).mono ?_
  rintro e w' ⟨rfl, rfl⟩
  go_wp2_with fail
  go_ret2
  exact ⟨rfl, rfl⟩
def rowV (x : Int) (n k : Nat) : List Value := List.replicate k (Value.int .i64 x) ++ List.replicate (n - k) (Value.int .i64 0)
theorem rowV_len {x : Int} {n k : Nat} (h : k ≤ n) : (rowV x n k).length = n := by simp [rowV]; omega
theorem rowV_zero (x : Int) (n : Nat) : rowV x n 0 = List.replicate n (Value.int .i64 0) := by simp [rowV]
theorem rowV_full (x : Int) (n : Nat) : rowV x n n = List.replicate n (Value.int .i64 x) := by simp [rowV]
theorem rowV_get {x : Int} {n k j : Nat} (h : j < k) : (rowV x n k)[j]? = some (Value.int .i64 x) := by
  unfold rowV
  rw [List.getElem?_append_left (by simpa using h), List.getElem?_replicate, if_pos h]
theorem rowV_splice {x : Int} {n k m : Nat} (hk : k + m ≤ n) : splice (rowV x n k) k (List.replicate m (Value.int .i64 x)) = rowV x n (k + m) := by
  unfold splice rowV
  rw [List.length_replicate, List.take_append_of_le_length (by simp), List.take_of_length_le (by simp), List.drop_append]
  rw [List.drop_eq_nil_of_le (by simp), List.nil_append, List.drop_replicate, List.length_replicate, ← List.append_assoc, List.replicate_append_replicate]
  congr 2
  omega
set_option maxRecDepth 100000 in
set_option maxHeartbeats 2000000 in
theorem repeatOne_any (x : Int) (n b c : Nat) (w : World) (h0 : 1 ≤ n) (hn : n ≤ 40) (hbs : b < w.heap.size) (hc : w.cell? ⟨b, 0, none⟩ = some (.int .i64 x)) :
    Calls Tryz.prog 106 #[.slice (some ⟨b, 0, none⟩) 1 c, .int .i64 n] w fun e w' => ∃ u, e = .returned u ∧ OwI w' w.heap.size u (List.replicate n x) ∧ Below w.heap.size w w' := by
  obtain ⟨i0, hi, hz0, hz1, hz2⟩ := info_parts infoI64
  have hsz : (Tryz.prog.info? 2).map (·.size) = some 1 := by rw [hi]; simp [hz1]
  go_enter Tryz.func106, Tryz.ntmps106
  go_wp2_with fail
  refine (mul_small n _ (by omega)).mono ?_
  rintro e w' ⟨rfl, rfl⟩
  go_wp2_with (at_make; refine wpList_make_full _ rfl _ _ 47 rfl w.heap.size 2 i0 (.int .i64 0) 1 Tryz.underlying47 hi hz0 hz1 _ _ _ _ n rfl rfl rfl rfl ?b2 ?b3 (Nat.le_refl _) ?_)
  case b2 => first | omega | (rw [hz2]; omega)
  case b3 => unfold maxLen; omega
  intro w0 hown0 hgrow0
  rw [toList_madeCells_one] at hown0
  have hb0 : Below w.heap.size w w0 := (Below.refl _ _).grown hgrow0 (Nat.le_refl _) (fun k h => by cases h)
  have hH : w0.heap[w.heap.size]? = some (.cells (rowV x n 0).toArray 2 (0, 0)) := by
    obtain ⟨_, h2⟩ := hown0
    rcases h2 with ⟨h2, _⟩ | ⟨g', cap', cur, e', hg, hh, hn', hm, hs, ht⟩
    · cases h2
    · cases e'
      rw [hh, rowV_zero, ← ht, List.take_of_length_le (by rw [Array.length_toList, hs]; omega)]
  have hsrc : w0.cell? ⟨b, 0, none⟩ = some (.int .i64 x) := (hb0.cell (by exact hbs)).trans hc
  have HH := Lib.hid hH
  clear hH hown0 hgrow0
  obtain ⟨X1, hX1⟩ : ∃ X, X = List.replicate 1 (Value.int .i64 x) := ⟨_, rfl⟩
  have hcs : X1.length = Nat.min 1 n := by
    rw [hX1, List.length_replicate]; exact (Nat.min_eq_left h0).symm
  have hfit : 0 + X1.length ≤ (rowV x n 0).length := by rw [rowV_len (Nat.zero_le _), hX1, List.length_replicate]; omega
  have hone : ∀ v ∈ X1, v.oneCell' = true := by intro v hv; rw [hX1] at hv; rw [(List.mem_replicate.1 hv).2]; rfl
  have hpos : 0 < X1.length → (some ⟨w.heap.size, 0, none⟩ : Option Addr) = some ⟨w.heap.size, 0, none⟩ ∧ ∃ ad, (some ⟨b, 0, none⟩ : Option Addr) = some ad ∧ ∀ j v, X1[j]? = some v → w0.cell? (ad.add j) = some v := by
    refine fun _ => ⟨rfl, _, rfl, fun j v hj => ?_⟩
    rw [hX1] at hj
    have hj0 : j = 0 := by have := (List.getElem?_eq_some_iff.1 hj).1; simp at this; omega
    subst hj0
    cases hj
    rw [Addr.add_lit]; exact hsrc
  have HX1 := Lib.hid hX1
  have HC := Lib.hid hcs
  have HF := Lib.hid hfit
  have HO := Lib.hid hone
  have HP := Lib.hid hpos
  clear hX1 hcs hfit hone hpos
  go_wp2_with ((with_reducible show wpList _ _ _ _ _ _); refine wpList_copy_splice (o := ⟨some 33, _, _, _, _, _⟩) rfl (.tmp 31) (.tmp 32) 47 47 rfl 2 Tryz.underlying47 hsz (some ⟨w.heap.size, 0, none⟩) (some ⟨b, 0, none⟩) n n 1 c rfl rfl w.heap.size 0 (rowV x n 0) 2 HH.out X1 HC.out HP.out HF.out HO.out w.heap.size w hb0 (Nat.le_refl _) ?_; intro w1 hg1 hb1; rw [show X1.length = 1 by rw [HX1.out, List.length_replicate]])
  have HG : Hid (w1.heap[w.heap.size]? = some (.cells (rowV x n 1).toArray 2 (0, 0))) := by
    have := hg1.out
    rw [HX1.out, rowV_splice (by omega)] at this
    exact Lib.hid this
  clear hg1 HH hsrc hb0 HX1 HC HF HO HP
  go_wp2_with fail
  go_loopw [8] (fun si wr => ∃ k : Nat, 1 ≤ k ∧ k ≤ n ∧ si = .int .i64 k ∧ Hid (wr.heap[w.heap.size]? = some (.cells (rowV x n k).toArray 2 (0, 0))) ∧ Below w.heap.size w wr) (fun si _ => n - (intOf si).toNat)
  case atStart => exact ⟨1, Nat.le_refl _, h0, rfl, HG, hb1⟩
  case round =>
    obtain ⟨k, hk1, hk, rfl, HK, hbl⟩ := hrel
    clear HG hb1
    by_cases hlt : k < n
    · obtain ⟨m, hm⟩ : ∃ m, m = Nat.min k (n - k) := ⟨_, rfl⟩
      have hmk : m ≤ k := by rw [hm]; exact Nat.min_le_left _ _
      have hmn : k + m ≤ n := by have : m ≤ n - k := by rw [hm]; exact Nat.min_le_right _ _
                                 omega
      have hm1 : 1 ≤ m := by rw [hm]; exact Nat.le_min.2 ⟨hk1, by omega⟩
      go_wp2_with fail
      obtain ⟨X2, hX2⟩ : ∃ X, X = List.replicate m (Value.int .i64 x) := ⟨_, rfl⟩
      have HX2 := Lib.hid hX2
      have hl2 : X2.length = m := by rw [hX2, List.length_replicate]
      have hb2 : Below w.heap.size w wr.drew := hbl.trans ⟨rfl, rfl, rfl, Nat.le_refl _, fun _ _ => rfl⟩
      have HK2 : Hid (wr.drew.heap[w.heap.size]? = some (.cells (rowV x n k).toArray 2 (0, 0))) := HK
      have HC : Hid (X2.length = Nat.min k (n - k)) := Lib.hid (by rw [hl2, hm])
      have HF : Hid (k + X2.length ≤ (rowV x n k).length) := Lib.hid (by rw [rowV_len hk, hl2]; exact hmn)
      have HO : Hid (∀ v ∈ X2, v.oneCell' = true) := Lib.hid (by intro v hv; rw [hX2] at hv; rw [(List.mem_replicate.1 hv).2]; rfl)
      have HP : Hid (0 < X2.length → (some ⟨w.heap.size, k, none⟩ : Option Addr) = some ⟨w.heap.size, k, none⟩ ∧ ∃ ad, (some ⟨w.heap.size, 0, none⟩ : Option Addr) = some ad ∧ ∀ j v, X2[j]? = some v → wr.drew.cell? (ad.add j) = some v) := by
        refine Lib.hid fun _ => ⟨rfl, _, rfl, fun j v hj => ?_⟩
        rw [hX2] at hj
        have hjl : j < m := by have := (List.getElem?_eq_some_iff.1 hj).1; simpa using this
        rw [List.getElem?_replicate, if_pos hjl] at hj
        cases hj
        rw [Addr.add_lit, Nat.zero_add]
        have hown : wr.drew.ownsRow w.heap.size 2 1 (.slice (some ⟨w.heap.size, 0, none⟩) n n) n (rowV x n k) :=
          ⟨by rw [rowV_len hk]; omega, Or.inr ⟨w.heap.size, n, _, rfl, Nat.le_refl _, HK2.out, Nat.le_refl _, by unfold maxLen; omega, by rw [List.size_toArray, rowV_len hk]; omega, by rw [List.take_of_length_le (by rw [rowV_len hk]; omega)]⟩⟩
        exact (hown.cellAt j (by omega)).trans (rowV_get (by omega))
      clear hX2
      go_region_law (refine step_copy_splice rfl (.tmp 41) (.tmp 44) 47 47 rfl 2 Tryz.underlying47 hsz (some ⟨w.heap.size, k, none⟩) (some ⟨w.heap.size, 0, none⟩) (n - k) (n - k) k n (by simp [Act.eval, Act.put]; omega) (by simp [Act.eval, Act.put]) w.heap.size k (rowV x n k) 2 HK2.out X2 HC.out HP.out HF.out HO.out w.heap.size w hb2 (Nat.le_refl _) ?_; intro w3 hg3 hb3)
      have HG2 : Hid (w3.heap[w.heap.size]? = some (.cells (rowV x n (k + m)).toArray 2 (0, 0))) := by
        have := hg3.out
        rw [HX2.out, rowV_splice hmn] at this
        exact Lib.hid this
      rw [← hm, show IntKind.i64.wrap ((k : Int) + (m : Int)) = ((k + m : Nat) : Int) by rw [IntKind.wrap_i64]; omega]
      clear hm hl2 hg3 HX2 HC HF HO HP HK HK2 hb2 hbl
      go_wp2_with fail
      go_roundw
      case rel => exact ⟨k + m, by omega, hmn, by go_num, HG2⟩
      case measure => simp [intOf]; omega
    · obtain rfl : k = n := by omega
      have hres : OwI wr w.heap.size (.slice (some ⟨w.heap.size, 0, none⟩) k k) (List.replicate k x) := by
        refine ownsRow_owI (e := 2) ⟨by simp, Or.inr ⟨w.heap.size, k, _, rfl, Nat.le_refl _, HK.out, Nat.le_refl _, by unfold maxLen; omega, ?_, ?_⟩⟩
        · rw [List.size_toArray, rowV_len (Nat.le_refl _)]; omega
        · rw [rowV_full]; simp
      have Hres := Lib.hid hres
      clear hres HK
      go_wp2_with fail
      go_ret
      exact ⟨_, rfl, Hres.out, hbl⟩
end Go.Proofs.YtcakmchefbohoaaGreatDoor
