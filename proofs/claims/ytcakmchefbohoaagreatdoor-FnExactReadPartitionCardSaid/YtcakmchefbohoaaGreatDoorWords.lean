/- Contracts: the words of a text, of the program and of the reference; the laws' helpers for lists of texts. -/
import Derived.Test.YtcakmchefbohoaaGreatDoorProg
import Derived.Test.YtcakmchefbohoaaGreatDoorMem
import Derived.Test.YtcakmchefbohoaaGreatDoorMath
import Derived.Test.YtcakmchefbohoaaGreatDoorBasics
import Derived.Test.YtcakmchefbohoaaGreatDoorHelpI
import Derived.Test.YtcakmchefbohoaaGreatDoorShelf
import Derived.Test.YtcakmchefbohoaaGreatDoorDec
import Derived.Test.YtcakmchefbohoaaGreatDoorText
import Derived.Test.YtcakmchefbohoaaGreatDoorSplit
import Derived.Test.YtcakmchefbohoaaGreatDoorFld
import Derived.Test.YtcakmchefbohoaaGreatDoorMkT
import Derived.WalkKit
import Derived.BigQuiet
import Derived.BigRegion
import Derived.Deep.QuietTactic
import Derived.Deep.RegionHeld3
import Derived.Maps.AppendAt
import Derived.Laws.OwnMore
import Derived.Lib.Hide
import Derived.Outline
set_option linter.unusedVariables false
set_option linter.unusedSimpArgs false
namespace Go.Proofs.YtcakmchefbohoaaGreatDoor
open Go.RowKit

def fullB (x : ByteArray) : Bool := full x.data.toList
def wordsF (s : ByteArray) : List ByteArray := (wordsB 32 s).filter fullB
theorem snth_get (ss : List ByteArray) (i : Nat) (h : i < ss.length) : ss[i]? = some (snth ss i) := by simp [snth, h]
theorem eqStringS_any (va vb : Value) (ss : List ByteArray) (w : World) (ha : RdS w va ss) (hb : RdS w vb ss) :
    Calls Tryz.prog 25 #[va, vb] w fun e w' => e = .returned (.bool true) ∧ Below w.heap.size w w' := by
  obtain ⟨a, ca, rfl, hca, hma, ha⟩ := ha
  obtain ⟨b, cb, rfl, hcb, hmb, hb⟩ := hb
  unfold maxLen at hma hmb
  obtain ⟨n, hn⟩ : ∃ n, n = ss.length := ⟨_, rfl⟩
  rw [← hn] at hca hcb ha hb ⊢
  clear hn
  go_enter Tryz.func25, Tryz.ntmps25
  go_wp2_with fail
  go_loopw [5] (fun si wr => ∃ k : Nat, k ≤ n ∧ si = .int .i64 k ∧ Below w.heap.size w wr) (fun si _ => n - (intOf si).toNat)
  case atStart => exact ⟨0, Nat.zero_le _, rfl, Below.refl _ _⟩
  case round =>
    obtain ⟨k, hk, rfl, hbl⟩ := hrel
    by_cases hlt : k < n
    · obtain ⟨b1, o1, rfl, hb1, hc1⟩ := ha (by omega)
      obtain ⟨b2, o2, rfl, hb2, hc2⟩ := hb (by omega)
      have g1 : wr.cell? ⟨b1, o1 + k, none⟩ = some (.string (snth ss k)) := (hbl.cell (by exact hb1)).trans (hc1 k (by omega))
      have g2 : wr.cell? ⟨b2, o2 + k, none⟩ = some (.string (snth ss k)) := (hbl.cell (by exact hb2)).trans (hc2 k (by omega))
      obtain ⟨x, hx⟩ : ∃ x, x = snth ss k := ⟨_, rfl⟩
      rw [← hx] at g1 g2
      clear hc1 hc2 ha hb hx
      go_wp2_with fail
      first
        | go_roundw
        | (go_quiet (fail); go_wp2_with fail; go_roundw)
      case rel => exact ⟨k + 1, by omega, by go_num, by first | exact hbl | exact hbl.trans ⟨rfl, rfl, rfl, Nat.le_refl _, fun _ _ => rfl⟩⟩
      case measure => simp [intOf]; omega
    · go_wp2_with fail
      go_ret
      exact ⟨rfl, hbl⟩
theorem row_texts {w : World} {base e : Nat} {v : Value} {n : Nat} {ss : List ByteArray} (h : w.ownsRow base e 1 v n (ss.map Value.string)) : OwS w base v ss := by
  have hn : n = ss.length := by have := h.1; simp at this; exact this.symm
  subst hn
  refine ownsRow_ow h _ fun i hi => ?_
  rw [List.getElem?_map, snth_get ss i (by omega)]
  rfl
theorem fields_words (s : ByteArray) : Lib.goFieldsP isSp s = wordsF s := by
  have h := fields_sp s
  have e1 : (Lib.goFieldsP isSp s) = ((Lib.goFieldsP isSp s).map (·.data.toList)).map ba := by
    rw [List.map_map]
    conv => lhs; rw [← List.map_id (Lib.goFieldsP isSp s)]
    refine List.map_congr_left fun x _ => ?_
    exact (ba_of x).symm
  rw [e1, h]
  unfold wordsF wordsB
  rw [List.filter_map]
  rfl
theorem wordsF_len (s : ByteArray) : (wordsF s).length ≤ s.size + 1 := by
  unfold wordsF wordsB
  refine Nat.le_trans (List.length_filter_le _ _) ?_
  rw [List.length_map]
  have := splitD_length 32 s.data.toList
  rw [show s.data.toList.length = s.size by rw [Array.length_toList]; rfl] at this
  exact this
theorem splitWords1_any (r : Nat) (w : World) : Calls Tryz.prog 100 #[.int .i32 (r : Int)] w fun e w' => e = .returned (.bool (isSp r)) ∧ ∃ q, w' = w.drewN q := by
  by_cases h : r = 32
  · have hb : ((r : Int) == 32) = true := by simp; omega
    have H : Hid (isSp r = true) := Lib.hid (decide_eq_true h)
    clear h
    go_enter Tryz.func100, Tryz.ntmps100
    go_wp2_with fail
    go_ret
    exact ⟨by rw [H.out]; rfl, 0, rfl⟩
  · have hb : ((r : Int) == 32) = false := by simp; omega
    have H : Hid (isSp r = false) := Lib.hid (decide_eq_false h)
    clear h
    go_enter Tryz.func100, Tryz.ntmps100
    go_wp2_with fail
    go_ret
    exact ⟨by rw [H.out]; rfl, 0, rfl⟩
set_option maxRecDepth 100000 in
theorem SplitWords_any (s : ByteArray) (w : World) (hs : s.size ≤ 1048576) :
    Calls Tryz.prog 62 #[.string s] w fun e w' => ∃ u, e = .returned u ∧ OwS w' w.heap.size u (wordsF s) ∧ Below w.heap.size w w' := by
  go_enter Tryz.func62, Tryz.ntmps62
  go_wp2_with fail
  refine (Tryz_strings_FieldsFunc_runes 100 #[] (fun args w => rfl) isSp s _ (by omega) (fun W x _ _ => splitWords1_any x W)).mono ?_
  rintro e w1 ⟨A, rfl, hA, hown, hb1⟩
  rw [fields_words] at hown ⊢
  have HO := Lib.hid (row_texts hown)
  clear hown
  go_wp2_with fail
  go_ret
  exact ⟨_, rfl, HO.out, hb1⟩
end Go.Proofs.YtcakmchefbohoaaGreatDoor
