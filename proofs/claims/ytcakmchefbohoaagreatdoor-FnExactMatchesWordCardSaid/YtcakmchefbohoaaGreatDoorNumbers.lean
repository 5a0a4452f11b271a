/- Contracts: many words read as numbers, lists read, of the program and of the reference. -/
import Derived.Test.YtcakmchefbohoaaGreatDoorProg
import Derived.Test.YtcakmchefbohoaaGreatDoorMem
import Derived.Test.YtcakmchefbohoaaGreatDoorMath
import Derived.Test.YtcakmchefbohoaaGreatDoorBasics
import Derived.Test.YtcakmchefbohoaaGreatDoorHelpI
import Derived.Test.YtcakmchefbohoaaGreatDoorOpenI
import Derived.Test.YtcakmchefbohoaaGreatDoorGrid
import Derived.Test.YtcakmchefbohoaaGreatDoorShelf
import Derived.Test.YtcakmchefbohoaaGreatDoorDec
import Derived.Test.YtcakmchefbohoaaGreatDoorNum
import Derived.Test.YtcakmchefbohoaaGreatDoorRead
import Derived.Test.YtcakmchefbohoaaGreatDoorText
import Derived.Test.YtcakmchefbohoaaGreatDoorLab
import Derived.Test.YtcakmchefbohoaaGreatDoorSplit
import Derived.Test.YtcakmchefbohoaaGreatDoorList
import Derived.Test.YtcakmchefbohoaaGreatDoorEnv
import Derived.WalkKit
import Derived.BigQuiet
import Derived.Maps.AppendAt
import Derived.Lib.Hide
import Derived.Outline
set_option linter.unusedVariables false
set_option linter.unusedSimpArgs false
namespace Go.Proofs.YtcakmchefbohoaaGreatDoor
open Go.RowKit

theorem canons_hit {ws : List ByteArray} {k : Nat} (h : k < ws.length) (hp : canon (snth ws k).data.toList = false) : canons ws = false := by
  cases he : canons ws with
  | false => rfl
  | true =>
    have := List.all_eq_true.1 he _ (List.getElem_mem h)
    rw [← snth_eq ws k h, hp] at this
    cases this
theorem canons_next {ws : List ByteArray} {k : Nat} (h : k < ws.length) (h0 : canons (ws.take k) = true) (hp : canon (snth ws k).data.toList = true) : canons (ws.take (k + 1)) = true := by
  unfold canons at h0 ⊢
  rw [take_snth ws k h, List.all_append, h0]
  simp [hp]
theorem rd_yes {s : ByteArray} (h : canon s.data.toList = true) : rdN s = numV s.data.toList := by unfold rdN; rw [if_pos h]
theorem numsV_next {ws : List ByteArray} {k : Nat} (h : k < ws.length) (hp : canon (snth ws k).data.toList = true) : numsV (ws.take (k + 1)) = numsV (ws.take k) ++ [rdN (snth ws k)] := by
  unfold numsV
  rw [take_snth ws k h, List.map_append, rd_yes hp]
  rfl
theorem numsV_64 {ws : List ByteArray} (h : canons ws = true) : I64s (numsV ws) := by
  intro x hx
  obtain ⟨y, hy, rfl⟩ := List.mem_map.1 hx
  have := canon_good (List.all_eq_true.1 h y hy)
  omega
/-- A list of words that reads as a whole. -/
def numsOr (ws : List ByteArray) : List Int := if canons ws = true then numsV ws else []
set_option maxRecDepth 100000 in
set_option maxHeartbeats 1600000 in
theorem readNumbers_any (v : Value) (ws : List ByteArray) (w : World) (hn : ws.length ≤ 1048577) (hs : ∀ k, k < ws.length → (snth ws k).size ≤ 1048576) (hT : Env3 w) (hv : RdS w v ws) :
    Calls Tryz.prog 61 #[v] w fun e w' => ∃ u, e = .returned (.tuple #[u, .bool (canons ws)]) ∧ OwI w' w.heap.size u (numsOr ws) ∧ Below w.heap.size w w' := by
  obtain ⟨a, cap, rfl, hcap, hm, hv⟩ := hv
  obtain ⟨i0, hi, hz0, hz1, hz2⟩ := info_parts infoI64
  obtain ⟨n, hxn⟩ : ∃ n, n = ws.length := ⟨_, rfl⟩
  rw [← hxn] at hcap hv hn
  have Hxn := Lib.hid hxn; clear hxn
  have HT := Lib.hid hT; clear hT
  have Hs := Lib.hid hs; clear hs
  rw [← Hxn.out]
  go_enter Tryz.func61, Tryz.ntmps61
  go_wp2_with fail
  go_loopw [4, 11] (fun so si wr => ∃ k : Nat, k ≤ n ∧ si = .int .i64 k ∧ Hid (canons (ws.take k) = true) ∧ Hid (wr.ownsRow w.heap.size 2 1 so k ((numsV (ws.take k)).map (Value.int .i64))) ∧ Below w.heap.size w wr) (fun _ si _ => n - (intOf si).toNat)
  case atStart => exact ⟨0, Nat.zero_le _, rfl, Lib.hid rfl, Lib.hid (World.ownsRow_nil _ _ _ _), Below.refl _ _⟩
  case round =>
    obtain ⟨k, hk, rfl, HL, HO, hbl⟩ := hrel
    obtain ⟨a5, c5, rfl⟩ := owned_slice HO.out
    by_cases hlt : k < n
    · obtain ⟨b, o, rfl, hb, hc⟩ := hv (by omega)
      have hg : wr.cell? ⟨b, o + k, none⟩ = some (.string (snth ws k)) := (hbl.cell (by exact hb)).trans (hc k (by omega))
      clear hc
      have hxs := Hs.out k (by rw [← Hxn.out]; exact hlt)
      obtain ⟨x, hx⟩ : ∃ x, x = snth ws k := ⟨_, rfl⟩
      have Hx := Lib.hid hx
      rw [← hx] at hg hxs
      have HTw := Lib.hid (HT.out.below hbl)
      clear hx
      cases hp : canon x.data.toList with
      | true =>
        have HL2 := Lib.hid (canons_next (k := k) (by rw [← Hxn.out]; exact hlt) HL.out (by rw [← Hx.out]; exact hp))
        have HN2 : Hid (numsV (ws.take (k + 1)) = numsV (ws.take k) ++ [rdN x]) := Lib.hid (by rw [numsV_next (by rw [← Hxn.out]; exact hlt) (by rw [← Hx.out]; exact hp), Hx.out])
        go_wp2_with fail
        refine (ReadDecimal_any x _ (by omega) HTw.out.1 HTw.out.2.1 HTw.out.2.2).mono ?_
        rw [hp]
        rintro e w1 ⟨rfl, hb1⟩
        have hbl1 := below_trans' hbl hb1
        have HO1 := Lib.hid (ownsRow_below HO.out hb1)
        clear HO HL hp
        go_wp2_with (at_builtin; refine wpList_append_own_at _ rfl _ _ 47 rfl w.heap.size 2 i0 (.int .i64 0) 1 8 Tryz.underlying47 hi hz0 hz1 hz2 rfl (by decide) _ k _ rfl (HO1.out.alloc _) ⟨w1.heap.size, 0, none⟩ 1 1 [.int .i64 (rdN x)] rfl rfl (new_cell _ _ _ _ rfl) (by simp [Value.oneCell']) ?c2 ?c3 ?c4 ?_)
        case c2 => unfold maxLen; omega
        case c3 => omega
        case c4 => have := hbl1.size; first | omega | (simp; omega)
        intro v' w2 hown' hgrow hnil hloc
        have hbl2 : Below w.heap.size w w2 := (hbl1.alloc hbl1.size _).grown hgrow (by have := hbl1.size; first | omega | (simp; omega)) (fun j hj => (HO1.out.lt j hj).1)
        have HO2 : Hid (w2.ownsRow w.heap.size 2 1 v' (k + 1) ((numsV (ws.take (k + 1))).map (Value.int .i64))) := by
          refine Lib.hid ?_
          rw [HN2.out, List.map_append]
          exact hown'
        clear hown' hgrow hnil hloc HO1
        go_wp2_with fail
        go_roundw
        case rel => exact ⟨k + 1, by omega, by go_num, HL2, HO2, hbl2⟩
        case measure => simp [intOf]; omega
      | false =>
        have HF := Lib.hid (canons_hit (k := k) (by rw [← Hxn.out]; exact hlt) (by rw [← Hx.out]; exact hp))
        have HE : Hid (numsOr ws = []) := Lib.hid (by unfold numsOr; rw [HF.out]; rfl)
        go_wp2_with fail
        refine (ReadDecimal_any x _ (by omega) HTw.out.1 HTw.out.2.1 HTw.out.2.2).mono ?_
        rw [hp]
        rintro e w1 ⟨rfl, hb1⟩
        go_wp2_with fail
        go_ret2
        exact ⟨_, by rw [HF.out]; rfl, by rw [HE.out]; exact OwI_nil _ _, below_trans' hbl hb1⟩
    · obtain rfl : k = n := by omega
      have HF : Hid (canons ws = true) := Lib.hid (by have := HL.out; rwa [List.take_of_length_le (by rw [Hxn.out]; exact Nat.le_refl _)] at this)
      have HE : Hid (numsOr ws = numsV (ws.take k)) := Lib.hid (by unfold numsOr; rw [if_pos HF.out, List.take_of_length_le (by rw [Hxn.out]; exact Nat.le_refl _)])
      go_wp2_with fail
      go_ret2
      exact ⟨_, by rw [HF.out]; rfl, by rw [HE.out]; exact ownsRow_owI HO.out, hbl⟩
/-- A list that is read from a text. -/
def listWords (s : ByteArray) : List ByteArray := wordsB 44 s
def listOkR (s : ByteArray) : Bool := if s = ⟨#[45]⟩ then true else canons (listWords s) && fits (numsV (listWords s))
def listVals (s : ByteArray) : List Int := if s = ⟨#[45]⟩ then [] else if listOkR s = true then numsV (listWords s) else []
theorem snth_word {c : UInt8} {s : ByteArray} {k : Nat} (h : k < (wordsB c s).length) : (snth (wordsB c s) k).size ≤ s.size := by
  rw [snth_eq _ _ h]
  exact wordsB_piece c s _ (List.getElem_mem h)
theorem rd_words {w : World} {c : UInt8} {s : ByteArray} {T : TypeId} (hs : s.size ≤ 1048576) :
    OwS (w.alloc (.cells (((wordsB c s).map Value.string).toArray) T)) w.heap.size (.slice (some ⟨w.heap.size, 0, none⟩) (wordsB c s).length (wordsB c s).length) (wordsB c s) := by
  refine rd_alloc w _ T _ (sc (wordsB c s)) (by simp) ?_ ?_
  · have := wordsB_length c s
    unfold maxLen; omega
  · intro i hi
    simp only [List.getElem?_toArray, List.getElem?_map]
    rw [snth_get? _ _ hi]
    rfl
end Go.Proofs.YtcakmchefbohoaaGreatDoor
