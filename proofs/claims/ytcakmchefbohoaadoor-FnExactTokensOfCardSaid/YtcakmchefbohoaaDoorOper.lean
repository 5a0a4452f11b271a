/- Contracts: operators: their levels and texts, of the program (which reads its tables) and of the reference. -/
import Derived.Test.YtcakmchefbohoaaDoorProg
import Derived.Test.YtcakmchefbohoaaDoorMem
import Derived.Test.YtcakmchefbohoaaDoorMath
import Derived.Test.YtcakmchefbohoaaDoorBasics
import Derived.WalkKit
import Derived.BigQuiet
import Derived.Deep.QuietTactic
import Derived.Lib.Hide
import Derived.Lib.LaidTab
import Derived.Outline
set_option linter.unusedVariables false
set_option linter.unusedSimpArgs false
namespace Go.Proofs.YtcakmchefbohoaaDoor
open Go.RowKit

theorem op_cases {c : Int} (h : inR c 0 8 = true) : c = 0 ∨ c = 1 ∨ c = 2 ∨ c = 3 ∨ c = 4 ∨ c = 5 ∨ c = 6 ∨ c = 7 ∨ c = 8 := by
  have := inR_true h; omega
def opB : List (List UInt8) := [[43], [45], [42], [61], [35], [60], [60, 61], [38], [124]]
def opL : List ByteArray := opB.map fun l => ⟨l.toArray⟩
theorem opL_length : opL.length = 9 := rfl
/-- The first place of a text in a list, or -1. -/
def idxS (ss : List ByteArray) (s : ByteArray) : Int :=
  match (List.range ss.length).find? fun i => (snth ss i).toList == s.toList with
  | some i => i
  | none => -1
theorem idxS_at {ss : List ByteArray} {s : ByteArray} {k : Nat} (hk : k < ss.length) (h : ((snth ss k).toList == s.toList) = true) (hn : ∀ i, i < k → ((snth ss i).toList == s.toList) = false) : idxS ss s = k := by
  unfold idxS
  have : (List.range ss.length).find? (fun i => (snth ss i).toList == s.toList) = some k := by
    rw [List.find?_range_eq_some]
    exact ⟨h, by simpa using hk, fun j hj => by rw [hn j hj]; rfl⟩
  rw [this]
theorem idxS_none {ss : List ByteArray} {s : ByteArray} (hn : ∀ i, i < ss.length → ((snth ss i).toList == s.toList) = false) : idxS ss s = -1 := by
  unfold idxS
  have : (List.range ss.length).find? (fun i => (snth ss i).toList == s.toList) = none := by
    rw [List.find?_eq_none]
    intro x hx
    rw [hn x (by simpa using hx)]
    simp
  rw [this]
theorem idxS_bd (ss : List ByteArray) (s : ByteArray) : -1 ≤ idxS ss s ∧ idxS ss s < (ss.length : Int) := by
  unfold idxS
  split
  · rename_i i h
    have := List.mem_of_find?_eq_some h
    simp at this
    omega
  · omega
theorem idxS_next {ss : List ByteArray} {s : ByteArray} {k : Nat} (h : ∀ i, i < k → ((snth ss i).toList == s.toList) = false) (hk : ((snth ss k).toList == s.toList) = false) : ∀ i, i < k + 1 → ((snth ss i).toList == s.toList) = false := fun i hi => by
  by_cases e : i = k
  · rw [e]; exact hk
  · exact h i (by omega)
theorem l04Ops_any (w : World) : Calls Tryd.prog 25 #[] w fun e w' => ∃ v, e = .returned v ∧ OwS w' w.heap.size v opL ∧ Below w.heap.size w w' := by
  go_enter Tryd.func25, Tryd.ntmps25
  go_wp2
  go_ret
  refine ⟨_, rfl, rd_alloc _ _ _ 9 _ rfl (by unfold maxLen; omega) fun i hi => ?_, (Below.refl _ _).alloc (Nat.le_refl _) _⟩
  have : i = 0 ∨ i = 1 ∨ i = 2 ∨ i = 3 ∨ i = 4 ∨ i = 5 ∨ i = 6 ∨ i = 7 ∨ i = 8 := by omega
  rcases this with rfl | rfl | rfl | rfl | rfl | rfl | rfl | rfl | rfl <;> rfl
set_option maxHeartbeats 400000 in
theorem l04Op_any (s : ByteArray) (w : World) : Calls Tryd.prog 19 #[.string s] w fun e w' => e = .returned (.int .i64 (idxS opL s)) ∧ Below w.heap.size w w' := by
  go_enter Tryd.func19, Tryd.ntmps19
  go_wp2_with fail
  refine (l04Ops_any _).mono ?_
  rintro e w1 ⟨v, rfl, hv, hb1⟩
  obtain ⟨a, cap, rfl, hcap, hm, hv⟩ := hv
  unfold maxLen at hm
  rw [opL_length] at hcap hv ⊢
  go_wp2
  go_loopw [4] (fun si wr => ∃ k : Nat, k ≤ 9 ∧ si = .int .i64 k ∧ Hid (∀ i, i < k → ((snth opL i).toList == s.toList) = false) ∧ wr = w1) (fun si _ => 9 - (intOf si).toNat)
  case atStart => exact ⟨0, Nat.zero_le _, rfl, Lib.hid fun i h => absurd h (by omega), rfl⟩
  case round =>
    obtain ⟨k, hk, rfl, hn, rfl⟩ := hrel
    by_cases hlt : k < 9
    · obtain ⟨b, o, rfl, _, hb, hc⟩ := hv (by omega)
      have g1 : wr.cell? ⟨b, o + k, none⟩ = some (.string (snth opL k)) := (hc k (by omega)).1
      clear hc
      have hlt' : (k : Int) < 9 := by omega
      cases he : ((snth opL k).toList == s.toList) with
      | true =>
        have H : Hid (idxS opL s = k) := Lib.hid (idxS_at (by rw [opL_length]; exact hlt) he hn.out)
        go_wp2
        go_ret
        exact ⟨by rw [H.out]; rfl, hb1⟩
      | false =>
        have H : Hid (∀ i, i < k + 1 → ((snth opL i).toList == s.toList) = false) := Lib.hid (idxS_next hn.out he)
        go_wp2
        go_roundw
        case rel => exact ⟨k + 1, by omega, by go_num, H, by trivial⟩
        case measure => simp [intOf]; omega
    · have H : Hid (idxS opL s = -1) := Lib.hid (idxS_none fun i hi => hn.out i (by rw [opL_length] at hi; omega))
      have hge : ¬ (k : Int) < 9 := by omega
      go_wp2
      go_ret
      exact ⟨by rw [H.out]; rfl, hb1⟩
set_option maxHeartbeats 400000 in
theorem slicesIndexS_any (v : Value) (ss : List ByteArray) (s : ByteArray) (w : World) (hv : RdS w v ss) : Calls Tryd.prog 30 #[v, .string s] w fun e w' => e = .returned (.int .i64 (idxS ss s)) ∧ w = w' := by
  obtain ⟨a, cap, rfl, hcap, hm, hv⟩ := hv
  unfold maxLen at hm
  go_enter Tryd.func30, Tryd.ntmps30
  go_wp2
  go_loop [8] (fun si => ∃ k : Nat, k ≤ ss.length ∧ si = .int .i64 k ∧ Hid (∀ i, i < k → ((snth ss i).toList == s.toList) = false)) (fun si => ss.length - (intOf si).toNat)
  case atStart => exact ⟨0, Nat.zero_le _, rfl, Lib.hid fun i h => absurd h (by omega)⟩
  case round =>
    obtain ⟨k, hk, rfl, hn⟩ := hrel
    by_cases hlt : k < ss.length
    · obtain ⟨b, o, rfl, hb, hc⟩ := hv (by omega)
      have g1 : w.cell? ⟨b, o + k, none⟩ = some (.string (snth ss k)) := hc k (by omega)
      clear hc
      cases he : ((snth ss k).toList == s.toList) with
      | true =>
        have he2 : (s.toList == (snth ss k).toList) = true := by rw [← he]; exact BEq.comm
        have H : Hid (idxS ss s = k) := Lib.hid (idxS_at hlt he hn.out)
        clear he
        go_wp2
        go_ret
        exact ⟨by rw [H.out]; rfl, rfl⟩
      | false =>
        have he2 : (s.toList == (snth ss k).toList) = false := by
          rw [← he]; exact BEq.comm
        have H : Hid (∀ i, i < k + 1 → ((snth ss i).toList == s.toList) = false) := Lib.hid (idxS_next hn.out he)
        clear he
        go_wp2
        go_round
        case rel => exact ⟨k + 1, by omega, by go_num, H⟩
        case measure => simp [intOf]; omega
    · have H : Hid (idxS ss s = -1) := Lib.hid (idxS_none fun i hi => hn.out i (by omega))
      go_wp2
      go_ret
      exact ⟨by rw [H.out]; rfl, rfl⟩
/-- The program's table of texts lies in memory. -/
def TextTab (w : World) : Prop := 0 < w.heap.size ∧ ∀ i, i < 9 → w.cell? ⟨0, i, none⟩ = some (.string (snth opL i))
theorem TextTab.below {w w' : World} (h : TextTab w) (hb : Below w.heap.size w w') : TextTab w' :=
  ⟨Nat.lt_of_lt_of_le h.1 hb.size, fun i hi => (hb.cell (p := ⟨0, i, none⟩) h.1).trans (h.2 i hi)⟩
theorem cells_of_strs {H : Type} {enc : TypeId × Value → H} {P : Program} {w : World} {base : Nat} {sp : Nat → Bool} {held : Bool} {fuel : Nat} {t e : TypeId} {n : Nat} {cs : List Value} {zs : List (List UInt8)} {p : List MemPlace}
    (ht : P.underlying t = some (.array n e)) (he : P.underlying e = some .string) (hce : P.cellsOf e = 1) (hct : P.cellsOf t = n)
    (h : DataW.trod enc P w base sp held fuel t cs = some (.agg (zs.map fun l => .lit (.string l)), p)) : ∀ i, i < n → cs[i]? = some (.string (snth (zs.map fun l => ⟨l.toArray⟩) i)) := by
  intro i hi
  cases fuel with
  | zero => simp [DataW.trod] at h
  | succ fuel =>
    simp only [DataW.trod, ht, hce, hct, Nat.mul_one] at h
    split at h
    · obtain ⟨xs, hm, hx⟩ := Option.map_eq_some_iff.1 h
      have hxs : xs.map (·.1) = zs.map fun l => (DataW.lit (.string l) : DataW H) := by
        have := congrArg Prod.fst hx
        simpa using this
      obtain ⟨b, hb, hf⟩ := Lib.mapM_at hm i i (by simp [hi])
      obtain ⟨z, hc, rfl, _⟩ := DataW.trod_string he hf
      have h1 : cs[i]? = some (.string z) := by
        have := congrArg (·[0]?) hc
        simpa [List.getElem?_take, List.getElem?_drop] using this
      have h2 : (xs.map (·.1))[i]? = some (DataW.lit (.string z.data.toList) : DataW H) := by simp [hb]
      rw [hxs] at h2
      simp only [List.getElem?_map, Option.map_eq_some_iff, DataW.lit.injEq, Lit.string.injEq] at h2
      obtain ⟨l, hl, rfl⟩ := h2
      rw [h1]
      have : (zs.map fun l => (⟨l.toArray⟩ : ByteArray))[i]? = some z := by simp [hl]
      simp only [snth, List.getD, this, Option.getD_some]
    · cases h
theorem text_tab {W : World} (h : laidMet Tryd.prog [(Tryd.prog.globals[0]!.name, .agg (opB.map fun l => .lit (.string l)))] W) : TextTab W := by
  have hg : Tryd.prog.globalNamed Tryd.prog.globals[0]!.name = some 0 := by kernel_rfl
  obtain ⟨ps, ⟨g', t', cs, fuel, p, q, hg', ht', hvar, hd, _, _⟩, _⟩ := h
  obtain rfl : 0 = g' := Option.some.inj (hg.symm.trans hg')
  obtain rfl : 48 = t' := Option.some.inj ((show (Tryd.prog.globals[0]?).map (·.type) = some 48 by kernel_rfl).symm.trans ht')
  have hc := cells_of_strs Tryd.underlying48 Tryd.underlying9 (by kernel_rfl) (by kernel_rfl) hd
  have hcell : ∀ i, i < 9 → W.cell? ⟨0, i, none⟩ = some (.string (snth opL i)) := fun i hi => (World.var?_cell hg hvar i).trans (by rw [← Array.getElem?_toList]; exact hc i hi)
  exact ⟨World.block_lt_of_cell? _ _ (hcell 0 (by decide)), hcell⟩
def opText (op : Int) : ByteArray := if inR op 0 8 then snth opL op.toNat else ByteArray.empty
def readOp (s : ByteArray) : Int := if idxS opL s < 0 then 0 else idxS opL s
def readOk (s : ByteArray) : Bool := decide (0 ≤ idxS opL s)
theorem textTab_rd {w : World} (hT : TextTab w) : RdS w (.slice (some ⟨0, 0, none⟩) 9 9) opL :=
  ⟨_, 9, rfl, Nat.le_refl _, by unfold maxLen; omega, fun _ => ⟨_, 0, rfl, hT.1, fun i hi => by rw [Nat.zero_add]; exact hT.2 i (by rw [opL_length] at hi; omega)⟩⟩
theorem ReadOperator_any (s : ByteArray) (w : World) (hT : TextTab w) : Calls Tryd.prog 27 #[.string s] w fun e w' => e = .returned (.tuple #[.int .i64 (readOp s), .bool (readOk s)]) ∧ Below w.heap.size w w' := by
  have hr := textTab_rd hT
  have hT0 := hT.1
  have HT := Lib.hid hT; clear hT
  have hbd := idxS_bd opL s
  rw [opL_length] at hbd
  by_cases h : idxS opL s < 0
  · have H : Hid (readOp s = 0 ∧ readOk s = false) := Lib.hid ⟨by simp [readOp, h], by simp [readOk]; omega⟩
    go_enter Tryd.func27, Tryd.ntmps27
    go_wp2_with (go_at_call 30; refine (slicesIndexS_any _ opL _ _ hr).mono ?_; rintro e w' ⟨rfl, rfl⟩)
    go_ret2
    exact ⟨by rw [H.out.1, H.out.2]; rfl, Below.refl _ _⟩
  · have H : Hid (readOp s = idxS opL s ∧ readOk s = true) := Lib.hid ⟨by simp [readOp, h], by simp [readOk]; omega⟩
    go_enter Tryd.func27, Tryd.ntmps27
    go_wp2_with (go_at_call 30; refine (slicesIndexS_any _ opL _ _ hr).mono ?_; rintro e w' ⟨rfl, rfl⟩)
    go_ret2
    exact ⟨by rw [H.out.1, H.out.2]; rfl, Below.refl _ _⟩
end Go.Proofs.YtcakmchefbohoaaDoor
