/- Contracts: texts split at a byte, by the reference; words read as numbers; lists as text. -/
import Derived.Test.YtcakmchefbohoaaGreatDoorProg
import Derived.Test.YtcakmchefbohoaaGreatDoorMem
import Derived.Test.YtcakmchefbohoaaGreatDoorMath
import Derived.Test.YtcakmchefbohoaaGreatDoorBasics
import Derived.Test.YtcakmchefbohoaaGreatDoorShelf
import Derived.Test.YtcakmchefbohoaaGreatDoorDec
import Derived.Test.YtcakmchefbohoaaGreatDoorNum
import Derived.Test.YtcakmchefbohoaaGreatDoorRead
import Derived.Test.YtcakmchefbohoaaGreatDoorText
import Derived.Test.YtcakmchefbohoaaGreatDoorGrid
import Derived.Test.YtcakmchefbohoaaGreatDoorHelpI
import Derived.WalkKit
import Derived.BigQuiet
import Derived.Maps.AppendAt
import Derived.Lib.Hide
import Derived.Outline
set_option linter.unusedVariables false
set_option linter.unusedSimpArgs false
namespace Go.Proofs.YtcakmchefbohoaaGreatDoor
open Go.RowKit

theorem bt_list (s : ByteArray) (i : Nat) (h : i < s.data.toList.length) : (s.data.toList[i].toNat : Int) = bt s i := by
  have hl : i < s.size := by rw [← ba_len]; exact h
  rw [← bt_eq s i hl]
  exact ((byte_get s i hl).2 h).symm
theorem no_c {s : ByteArray} {c : UInt8} {f k : Nat} (h : ∀ i, f ≤ i → i < k → bt s i ≠ (c.toNat : Int)) : c ∉ (s.data.toList.drop f).take (k - f) := by
  intro hc
  obtain ⟨j, hj, e⟩ := List.mem_iff_getElem.1 hc
  rw [List.length_take, List.length_drop] at hj
  rw [List.getElem_take, List.getElem_drop] at e
  have h1 := bt_list s (f + j) (by omega)
  rw [e] at h1
  exact h (f + j) (by omega) (by omega) h1.symm
theorem split_step {s : ByteArray} {c : UInt8} {f k : Nat} (hf : f ≤ k) (hk : k < s.size) (hc : bt s k = (c.toNat : Int)) (h : ∀ i, f ≤ i → i < k → bt s i ≠ (c.toNat : Int)) :
    (splitD c (s.data.toList.drop f)).map ba = s.extract f k :: (splitD c (s.data.toList.drop (k + 1))).map ba := by
  have hl := ba_len s
  have hkl : k < s.data.toList.length := by omega
  have e : s.data.toList.drop f = (s.data.toList.drop f).take (k - f) ++ c :: s.data.toList.drop (k + 1) := by
    conv => lhs; rw [← List.take_append_drop (k - f) (s.data.toList.drop f)]
    rw [List.drop_drop, show f + (k - f) = k by omega, List.drop_eq_getElem_cons hkl]
    have h1 := bt_list s k hkl
    rw [hc] at h1
    rw [UInt8.toNat_inj.1 (show (s.data.toList[k]).toNat = c.toNat by omega)]
  rw [e, splitD_at _ (no_c h), List.map_cons]
  congr 1
  rw [← Lib.extract_data]
  exact ba_of _
theorem split_end {s : ByteArray} {c : UInt8} {f : Nat} (h : ∀ i, f ≤ i → i < s.size → bt s i ≠ (c.toNat : Int)) : (splitD c (s.data.toList.drop f)).map ba = [s.extract f s.size] := by
  have h1 := no_c h
  have hl := ba_len s
  rw [List.take_of_length_le (by rw [List.length_drop]; omega)] at h1
  rw [splitD_none h1, List.map_cons, List.map_nil]
  congr 1
  have h2 := Lib.extract_data s f s.size
  rw [List.take_of_length_le (by rw [List.length_drop]; omega)] at h2
  rw [← h2]
  exact ba_of _
theorem infoStr : (Tryz.prog.info? 9).map (fun i => (i.zero, i.size, i.bytes)) = some (some (.string ByteArray.empty), 1, 16) := by kernel_rfl
theorem ownsRow_owS {w : World} {base e : Nat} {v : Value} {n : Nat} {ss : List ByteArray} (h : w.ownsRow base e 1 v n (ss.map Value.string)) : OwS w base v ss := by
  have hn : n = ss.length := by have := h.1; simp at this; exact this.symm
  subst hn
  refine ownsRow_ow h _ fun i hi => ?_
  rw [List.getElem?_map, snth_get? ss i (by omega)]
  rfl
theorem str_one (x : ByteArray) : ∀ u ∈ [Value.string x], u.oneCell' = true := by
  intro u hu
  simp at hu; subst hu; rfl
set_option maxRecDepth 100000 in
set_option maxHeartbeats 1600000 in
theorem l01Split_any (s : ByteArray) (cb : Int) (c : UInt8) (w : World) (hcb : cb = (c.toNat : Int)) (hs : s.size ≤ 1048576) :
    Calls Tryz.prog 56 #[.string s, .int .u8 cb] w fun e w' => ∃ u, e = .returned u ∧ OwS w' w.heap.size u (wordsB c s) ∧ Below w.heap.size w w' := by
  obtain ⟨i0, hi, hz0, hz1, hz2⟩ := info_parts infoStr
  have HC := Lib.hid hcb
  clear hcb
  go_enter Tryz.func56, Tryz.ntmps56
  go_wp2
  go_loopw [5, 6, 7] (fun so sf si wr => ∃ (k f : Nat) (done : List ByteArray), f ≤ k ∧ k ≤ s.size ∧ si = .int .i64 k ∧ sf = .int .i64 f ∧ done.length ≤ k ∧ Hid (wr.ownsRow w.heap.size 9 1 so done.length (done.map Value.string)) ∧ Hid (done ++ (splitD c (s.data.toList.drop f)).map ba = wordsB c s) ∧ Hid (∀ i, f ≤ i → i < k → bt s i ≠ (c.toNat : Int)) ∧ Below w.heap.size w wr) (fun _ _ si _ => s.size - (intOf si).toNat)
  case atStart => exact ⟨0, 0, [], Nat.le_refl _, Nat.zero_le _, rfl, rfl, Nat.zero_le _, Lib.hid (nil_owned _ _ (Nat.le_refl _)), Lib.hid (by rw [List.drop_zero]; rfl), Lib.hid (fun i h1 h2 => absurd h2 (by omega)), (Below.refl _ _).alloc (Nat.le_refl _) _⟩
  case round =>
    obtain ⟨k, f, done, hf, hk, rfl, rfl, hdl, HO, HD, HN, hbl⟩ := hrel
    obtain ⟨a5, c5, rfl⟩ := owned_slice HO.out
    obtain ⟨D, hD⟩ : ∃ D, D = done.length := ⟨_, rfl⟩
    rw [← hD] at HO hdl ⊢
    have HDl := Lib.hid hD
    clear hD
    by_cases hlt : k < s.size
    · have hck : (s[k].toNat : Int) = bt s k := bt_eq s k hlt
      by_cases he : bt s k = cb
      · have HD2 : Hid ((done ++ [s.extract f k]) ++ (splitD c (s.data.toList.drop (k + 1))).map ba = wordsB c s) := Lib.hid (by
          rw [List.append_assoc, List.singleton_append, ← split_step hf hlt (by rw [he, HC.out]) HN.out]; exact HD.out)
        have hkm : k < maxLen := by unfold maxLen; omega
        go_wp2_with (at_builtin; refine wpList_append_own_at _ rfl _ _ 37 rfl w.heap.size 9 i0 (.string ByteArray.empty) 1 16 Tryz.underlying37 hi hz0 hz1 hz2 rfl (by decide) _ D _ rfl (HO.out.alloc _) ⟨wr.heap.size, 0, none⟩ 1 1 [.string (s.extract f k)] rfl rfl (new_cell _ _ _ _ rfl) (str_one _) ?c2 ?c3 ?c4 ?_)
        case c2 => unfold maxLen; omega
        case c3 => omega
        case c4 => have := hbl.size; first | omega | (simp; omega)
        intro v' w1 hown' hgrow hnil hloc
        have HO2 : Hid (w1.ownsRow w.heap.size 9 1 v' (done ++ [s.extract f k]).length ((done ++ [s.extract f k]).map Value.string)) := by
          refine Lib.hid ?_
          rw [List.length_append, List.map_append, ← HDl.out]
          exact hown'
        have hbl2 : Below w.heap.size w w1 := (hbl.alloc hbl.size _).grown hgrow (by have := hbl.size; first | omega | (simp; omega)) (fun j hj => (HO.out.lt j hj).1)
        have hdl2 : (done ++ [s.extract f k]).length ≤ k + 1 := by rw [List.length_append, ← HDl.out]; simp; omega
        clear hown' hgrow hnil hloc HO
        go_wp2
        go_roundw
        case rel => exact ⟨k + 1, k + 1, _, Nat.le_refl _, by omega, by go_num, by go_num, hdl2, HO2, HD2, Lib.hid (fun i h1 h2 => absurd h2 (by omega)), hbl2⟩
        case measure => simp [intOf]; omega
      · have HN2 : Hid (∀ i, f ≤ i → i < k + 1 → bt s i ≠ (c.toNat : Int)) := Lib.hid fun i h1 h2 => by
          by_cases e : i = k
          · rw [e, ← HC.out]; exact he
          · exact HN.out i h1 (by omega)
        go_wp2_with fail
        go_roundw
        case rel => exact ⟨k + 1, f, done, by omega, by omega, by go_num, rfl, by rw [← HDl.out]; omega, by rw [← HDl.out]; exact HO, HD, HN2, hbl⟩
        case measure => simp [intOf]; omega
    · obtain rfl : k = s.size := by omega
      have HE : Hid (wordsB c s = done ++ [s.extract f s.size]) := Lib.hid (by rw [← HD.out, split_end HN.out])
      go_wp2_with (at_builtin; refine wpList_append_own_at _ rfl _ _ 37 rfl w.heap.size 9 i0 (.string ByteArray.empty) 1 16 Tryz.underlying37 hi hz0 hz1 hz2 rfl (by decide) _ D _ rfl (HO.out.alloc _) ⟨wr.heap.size, 0, none⟩ 1 1 [.string (s.extract f s.size)] rfl rfl (new_cell _ _ _ _ rfl) (str_one _) ?c2 ?c3 ?c4 ?_)
      case c2 => unfold maxLen; omega
      case c3 => omega
      case c4 => have := hbl.size; first | omega | (simp; omega)
      intro v' w1 hown' hgrow hnil hloc
      have hbl2 : Below w.heap.size w w1 := (hbl.alloc hbl.size _).grown hgrow (by have := hbl.size; first | omega | (simp; omega)) (fun j hj => (HO.out.lt j hj).1)
      have HO2 : Hid (OwS w1 w.heap.size v' (wordsB c s)) := by
        refine Lib.hid ?_
        rw [HE.out]
        refine ownsRow_owS (n := D + 1) (e := 9) ?_
        rw [List.map_append]
        exact hown'
      clear hown' hgrow hnil hloc HO
      go_wp2
      go_ret
      exact ⟨_, rfl, HO2.out, hbl2⟩
end Go.Proofs.YtcakmchefbohoaaGreatDoor
