/- Contracts: the words of a text, of the program and of the reference; the laws' helpers for lists of texts. -/
import Derived.Test.YtapmnfmobigdkaaProg
import Derived.Test.YtapmnfmobigdkaaMem
import Derived.Test.YtapmnfmobigdkaaMath
import Derived.Test.YtapmnfmobigdkaaBasics
import Derived.Test.YtapmnfmobigdkaaHelpI
import Derived.Test.YtapmnfmobigdkaaShelf
import Derived.Test.YtapmnfmobigdkaaDec
import Derived.Test.YtapmnfmobigdkaaText
import Derived.Test.YtapmnfmobigdkaaSplit
import Derived.Test.YtapmnfmobigdkaaFld
import Derived.Test.YtapmnfmobigdkaaMkT
import Derived.WalkKit
import Derived.BigQuiet
import Derived.BigRegion
import Derived.Deep.QuietTactic
import Derived.Deep.RegionHeld3
import Derived.Maps.AppendAt
import Derived.Laws.OwnMore
import Derived.Lib.Hide
import Derived.Outline
set_option linter.unusedVariables false
set_option linter.unusedSimpArgs false
namespace Go.Proofs.Ytapmnfmobigdkaa
open Go.RowKit

def fullB (x : ByteArray) : Bool := full x.data.toList
def wordsF (s : ByteArray) : List ByteArray := (wordsB 32 s).filter fullB
theorem snth_get (ss : List ByteArray) (i : Nat) (h : i < ss.length) : ss[i]? = some (snth ss i) := by simp [snth, h]
theorem eqStringS_any (va vb : Value) (ss : List ByteArray) (w : World) (ha : RdS w va ss) (hb : RdS w vb ss) :
    Calls Try.prog 9 #[va, vb] w fun e w' => e = .returned (.bool true) ∧ Below w.heap.size w w' := by
  obtain ⟨a, ca, rfl, hca, hma, ha⟩ := ha
  obtain ⟨b, cb, rfl, hcb, hmb, hb⟩ := hb
  unfold maxLen at hma hmb
  obtain ⟨n, hn⟩ : ∃ n, n = ss.length := ⟨_, rfl⟩
  rw [← hn] at hca hcb ha hb ⊢
  clear hn
  go_enter Try.func9, Try.ntmps9
  go_wp2_with fail
  go_loopw [5] (fun si wr => ∃ k : Nat, k ≤ n ∧ si = .int .i64 k ∧ Below w.heap.size w wr) (fun si _ => n - (intOf si).toNat)
  case atStart => exact ⟨0, Nat.zero_le _, rfl, Below.refl _ _⟩
  case round =>
    obtain ⟨k, hk, rfl, hbl⟩ := hrel
    by_cases hlt : k < n
    · obtain ⟨b1, o1, rfl, hb1, hc1⟩ := ha (by omega)
      obtain ⟨b2, o2, rfl, hb2, hc2⟩ := hb (by omega)
      have g1 : wr.cell? ⟨b1, o1 + k, none⟩ = some (.string (snth ss k)) := (hbl.cell (by exact hb1)).trans (hc1 k (by omega))
      have g2 : wr.cell? ⟨b2, o2 + k, none⟩ = some (.string (snth ss k)) := (hbl.cell (by exact hb2)).trans (hc2 k (by omega))
      obtain ⟨x, hx⟩ : ∃ x, x = snth ss k := ⟨_, rfl⟩
      rw [← hx] at g1 g2
      clear hc1 hc2 ha hb hx
      go_wp2_with fail
      first
        | go_roundw
        | (go_quiet (fail); go_wp2_with fail; go_roundw)
      case rel => exact ⟨k + 1, by omega, by go_num, by first | exact hbl | exact hbl.trans ⟨rfl, rfl, rfl, Nat.le_refl _, fun _ _ => rfl⟩⟩
      case measure => simp [intOf]; omega
    · go_wp2_with fail
      go_ret
      exact ⟨rfl, hbl⟩
def marksS (m : Int) (n : Nat) : List ByteArray := (List.range n).map fun (i : Nat) => markT (m + (i : Int)).toNat
theorem marksS_len (m : Int) (n : Nat) : (marksS m n).length = n := by simp [marksS]
theorem snth_marks (m : Int) (n i : Nat) (h : i < n) : snth (marksS m n) i = markT (m + (i : Int)).toNat := by simp [snth, marksS, h]
def mixS (m : Int) (n k : Nat) (f : List ByteArray) (i : Nat) : Value := if i < k then sc (marksS m n) i else sc f i
set_option maxRecDepth 100000 in
set_option maxHeartbeats 800000 in
theorem markStringS_any (lo hi : Nat) (v : Value) (f : List ByteArray) (m : Int) (w : World) (hn : f.length ≤ 2097152) (h0 : 0 < m) (hm : m ≤ 100000000) (hv : InS w lo hi v f) :
    Calls Try.prog 10 #[v, .int .i64 m] w fun e w' => e = .returned (.int .i64 (m + (f.length : Int))) ∧ InS w' lo hi v (marksS m f.length) ∧ Mod lo hi w w' := by
  have HV := Lib.hid hv
  obtain ⟨a, cap, rfl, hcap, hcm, hv⟩ := hv
  unfold maxLen at hcm
  obtain ⟨n, hxn⟩ : ∃ n, n = f.length := ⟨_, rfl⟩
  unfold InS at HV ⊢
  rw [marksS_len]
  rw [← hxn] at hcap HV hn ⊢
  have Hxn := Lib.hid hxn; clear hxn hv
  go_enter Try.func10, Try.ntmps10
  go_wp2_with fail
  go_loopw [1, 5] (fun sk si wr => ∃ k : Nat, k ≤ n ∧ si = .int .i64 k ∧ sk = .int .i64 (m + (k : Int)) ∧ Hid (In wr lo hi 1 (.slice a n cap) n (mixS m n k f)) ∧ Hid (Mod lo hi w wr))
    (fun _ si _ => n - (intOf si).toNat)
  case atStart => exact ⟨0, Nat.zero_le _, rfl, by simp, Lib.hid (In_same HV.out fun i _ => by unfold mixS; rw [if_neg (by omega)]), Lib.hid (Mod.refl _ _ _)⟩
  case round =>
    obtain ⟨k, hk, rfl, rfl, HI, HM⟩ := hrel
    by_cases hlt : k < n
    · obtain ⟨b, o, rfl⟩ := HI.out.base (by omega)
      obtain ⟨M, hM⟩ : ∃ M, M = m + (k : Int) := ⟨_, rfl⟩
      have Hm2 : Hid (m + ((k + 1 : Nat) : Int) = M + 1) := Lib.hid (by omega)
      have HMx := Lib.hid hM
      rw [← hM]
      have hM0 : 0 < M := by omega
      have hM1 : M ≤ 1000000000 - 10 := by omega
      clear hM
      go_wp2_with fail
      refine (markText_any' M _ (by omega) (by omega)).mono ?_
      rintro e w1 ⟨rfl, hb1⟩
      have I2 := HI.out.stayed hb1
      have M2 := HM.out.trans (hb1.mods lo hi)
      obtain ⟨p0, z0, hl0, hh0, hs0⟩ := I2.at (k := k) (p := ⟨b, o + k, none⟩) (by omega) rfl
      have i1 := In_put I2 (k := k) (p := ⟨b, o + k, none⟩) (by omega) rfl (.string (markT M.toNat))
      have HJ : Hid (In _ lo hi 1 (.slice (some ⟨b, o, none⟩) n cap) n (mixS m n (k + 1) f)) := Lib.hid (In_same i1 fun i hi => by
        unfold mixS
        by_cases h0 : i = k
        · rw [if_pos (by omega), h0]; unfold sc; rw [snth_marks _ _ _ hlt, ← HMx.out]; simp
        by_cases hk4 : i < k
        · rw [if_pos (by omega)]; simp [h0, hk4]
        · rw [if_neg (by omega)]; simp [h0, hk4])
      have HN := Lib.hid ((M2).setCell (p := ⟨b, o + k, none⟩) hl0 hh0 (.string (markT M.toNat)))
      clear i1 I2 M2 HI HM
      go_wp2_with fail
      go_roundw
      case rel => exact ⟨k + 1, by omega, by go_num, by rw [Hm2.out], HJ, HN⟩
      case measure => simp [intOf]; omega
    · obtain rfl : k = n := by omega
      go_wp2_with fail
      go_ret
      exact ⟨rfl, In_same HI.out fun i hi => by unfold mixS; rw [if_pos (by omega)], HM.out⟩
theorem held_one {wr W W1 : World} {b x0 : Nat} {u0 : Value} (hbz : Below W.heap.size W W1)
    (h : Below wr.heap.size wr W ∧ W.cell? ⟨b, x0, none⟩ = some u0) (hb : b < wr.heap.size) :
    Below wr.heap.size wr W1 ∧ W1.cell? ⟨b, x0, none⟩ = some u0 := by
  obtain ⟨h0, h1⟩ := h
  have hlt : b < W.heap.size := Nat.lt_of_lt_of_le hb h0.size
  exact ⟨below_trans' h0 hbz, (hbz.cell (by exact hlt)).trans h1⟩
set_option maxRecDepth 100000 in
set_option maxHeartbeats 800000 in
theorem heldStringS_any (v : Value) (m : Int) (n : Nat) (w : World) (hn : n ≤ 2097152) (h0 : 0 < m) (hm : m ≤ 100000000) (hv : RdS w v (marksS m n)) :
    Calls Try.prog 11 #[v, .int .i64 m] w fun e w' => e = .returned (.int .i64 (m + (n : Int))) ∧ Below w.heap.size w w' := by
  have HL := Lib.hid (marksS_len m n)
  obtain ⟨a, cap, rfl, hcap, hcm, hv⟩ := hv
  unfold maxLen at hcm
  rw [HL.out] at hcap hv ⊢
  go_enter Try.func11, Try.ntmps11
  go_wp2_with fail
  go_loopw [1, 5] (fun sk si wr => ∃ k : Nat, k ≤ n ∧ si = .int .i64 k ∧ sk = .int .i64 (m + (k : Int)) ∧ Below w.heap.size w wr)
    (fun _ si _ => n - (intOf si).toNat)
  case atStart => exact ⟨0, Nat.zero_le _, rfl, by simp, Below.refl _ _⟩
  case round =>
    obtain ⟨k, hk, rfl, rfl, hbl⟩ := hrel
    by_cases hlt : k < n
    · obtain ⟨b, o, rfl, hb, hc⟩ := hv (by omega)
      have g0 : w.cell? ⟨b, o + k, none⟩ = some (.string (snth (marksS m n) k)) := hc k (by omega)
      rw [snth_marks _ _ _ hlt] at g0
      obtain ⟨M, hM⟩ : ∃ M, M = m + (k : Int) := ⟨_, rfl⟩
      have Hm2 : Hid (m + ((k + 1 : Nat) : Int) = M + 1) := Lib.hid (by omega)
      rw [← hM] at g0 ⊢
      have hM0 : 0 < M := by omega
      have hM1 : M ≤ 1000000000 - 10 := by omega
      clear hM hc hv
      have q0 := (hbl.cell (by exact hb)).trans g0
      have hblo := hbl.size
      obtain ⟨X, hX⟩ : ∃ X, X = markT M.toNat := ⟨_, rfl⟩
      rw [← hX] at q0
      have hd0 : Below wr.heap.size wr wr.drew := Below.drew (Below.refl _ _)
      have hbw : b < wr.heap.size := Nat.lt_of_lt_of_le hb hblo
      clear g0
      go_wp2_with fail
      go_region_held3 (fun W => Below wr.heap.size wr W ∧ W.cell? ⟨b, o + k, none⟩ = some (.string X)) ((first | exact ⟨hd0, q0⟩ | exact held_one (by assumption) (by assumption) hbw)) ((first | (go_at_call 34; refine (markText_x _ X _ (by omega) (by omega) hX).mono ?_; rintro e w1 ⟨rfl, hb1⟩) | fail))
      all_goals obtain ⟨hW0, hW1⟩ := (by assumption : Below wr.heap.size wr _ ∧ _)
      all_goals have hbl1 := below_trans' hbl hW0
      all_goals go_wp2_with fail
      go_roundw
      case rel => exact ⟨k + 1, by omega, by go_num, by rw [Hm2.out], hbl1⟩
      case measure => simp [intOf]; omega
    · obtain rfl : k = n := by omega
      go_wp2_with fail
      go_ret
      exact ⟨rfl, hbl⟩
theorem row_texts {w : World} {base e : Nat} {v : Value} {n : Nat} {ss : List ByteArray} (h : w.ownsRow base e 1 v n (ss.map Value.string)) : OwS w base v ss := by
  have hn : n = ss.length := by have := h.1; simp at this; exact this.symm
  subst hn
  refine ownsRow_ow h _ fun i hi => ?_
  rw [List.getElem?_map, snth_get ss i (by omega)]
  rfl
theorem fields_words (s : ByteArray) : Lib.goFieldsP isSp s = wordsF s := by
  have h := fields_sp s
  have e1 : (Lib.goFieldsP isSp s) = ((Lib.goFieldsP isSp s).map (·.data.toList)).map ba := by
    rw [List.map_map]
    conv => lhs; rw [← List.map_id (Lib.goFieldsP isSp s)]
    refine List.map_congr_left fun x _ => ?_
    exact (ba_of x).symm
  rw [e1, h]
  unfold wordsF wordsB
  rw [List.filter_map]
  rfl
theorem wordsF_len (s : ByteArray) : (wordsF s).length ≤ s.size + 1 := by
  unfold wordsF wordsB
  refine Nat.le_trans (List.length_filter_le _ _) ?_
  rw [List.length_map]
  have := splitD_length 32 s.data.toList
  rw [show s.data.toList.length = s.size by rw [Array.length_toList]; rfl] at this
  exact this
theorem splitWords1_any (r : Nat) (w : World) : Calls Try.prog 33 #[.int .i32 (r : Int)] w fun e w' => e = .returned (.bool (isSp r)) ∧ ∃ q, w' = w.drewN q := by
  by_cases h : r = 32
  · have hb : ((r : Int) == 32) = true := by simp; omega
    have H : Hid (isSp r = true) := Lib.hid (decide_eq_true h)
    clear h
    go_enter Try.func33, Try.ntmps33
    go_wp2_with fail
    go_ret
    exact ⟨by rw [H.out]; rfl, 0, rfl⟩
  · have hb : ((r : Int) == 32) = false := by simp; omega
    have H : Hid (isSp r = false) := Lib.hid (decide_eq_false h)
    clear h
    go_enter Try.func33, Try.ntmps33
    go_wp2_with fail
    go_ret
    exact ⟨by rw [H.out]; rfl, 0, rfl⟩
theorem SplitWords_any (s : ByteArray) (w : World) (hs : s.size ≤ 1048576) :
    Calls Try.prog 8 #[.string s] w fun e w' => ∃ u, e = .returned u ∧ OwS w' w.heap.size u (wordsF s) ∧ Below w.heap.size w w' := by
  go_enter Try.func8, Try.ntmps8
  go_wp2_with fail
  refine (Try_strings_FieldsFunc_runes 33 #[] (fun args w => rfl) isSp s _ (by omega) (fun W x _ _ => splitWords1_any x W)).mono ?_
  rintro e w1 ⟨A, rfl, hA, hown, hb1⟩
  rw [fields_words] at hown ⊢
  have HO := Lib.hid (row_texts hown)
  clear hown
  go_wp2_with fail
  go_ret
  exact ⟨_, rfl, HO.out, hb1⟩
set_option maxRecDepth 100000 in
set_option maxHeartbeats 800000 in
theorem spec_SplitWords_any (s : ByteArray) (w : World) (hs : s.size ≤ 1048576) :
    Calls Try.prog 7 #[.string s] w fun e w' => ∃ u, e = .returned u ∧ OwS w' w.heap.size u (wordsF s) ∧ Below w.heap.size w w' := by
  obtain ⟨i0, hi, hz0, hz1, hz2⟩ := info_parts infoStr
  have hwl : (wordsB 32 s).length ≤ 1048577 := by
    unfold wordsB
    rw [List.length_map]
    have := splitD_length 32 s.data.toList
    rw [show s.data.toList.length = s.size by rw [Array.length_toList]; rfl] at this
    omega
  go_enter Try.func7, Try.ntmps7
  go_wp2_with fail
  refine (l01Split_any s 32 32 _ (by rfl) hs).mono ?_
  rintro e w1 ⟨u, rfl, hu, hb1⟩
  obtain ⟨L, hL⟩ : ∃ L, L = wordsB 32 s := ⟨_, rfl⟩
  have HF : Hid (wordsF s = L.filter fullB) := Lib.hid (by rw [hL]; rfl)
  have hu2 : RdS w1 u L := by rw [hL]; exact hu.rd
  rw [← hL] at hwl
  obtain ⟨a, cap, rfl, hcap, hcm, hv⟩ := hu2
  unfold maxLen at hcm
  obtain ⟨n, hn⟩ : ∃ n, n = L.length := ⟨_, rfl⟩
  rw [← hn] at hcap hv hwl ⊢
  have Hn := Lib.hid hn
  have hz := hb1.size
  clear hL hn hu
  go_wp2_with fail
  go_loopw [4, 5] (fun so si wr => ∃ (k D : Nat) (done : List ByteArray), k ≤ n ∧ si = .int .i64 k ∧ D ≤ k ∧ Hid (D = done.length) ∧ Hid (done = (L.take k).filter fullB) ∧ Hid (wr.ownsRow w1.heap.size 9 1 so D (done.map Value.string)) ∧ Below w1.heap.size w1 wr) (fun _ si _ => n - (intOf si).toNat)
  case atStart => exact ⟨0, 0, [], Nat.zero_le _, rfl, Nat.le_refl _, Lib.hid rfl, Lib.hid rfl, Lib.hid (nil_owned _ _ (Nat.le_refl _)), (Below.refl _ _).alloc (Nat.le_refl _) _⟩
  case round =>
    obtain ⟨k, D, done, hk, rfl, hD, HD, HE, HO, hbl⟩ := hrel
    obtain ⟨a5, c5, rfl⟩ := owned_slice HO.out
    by_cases hlt : k < n
    · obtain ⟨b, o, rfl, hb, hc⟩ := hv (by omega)
      have g0 : wr.cell? ⟨b, o + k, none⟩ = some (.string (snth L k)) := (hbl.cell (by exact hb)).trans (hc k (by omega))
      have htk : Hid ((L.take (k + 1)).filter fullB = (L.take k).filter fullB ++ (if fullB (snth L k) = true then [snth L k] else [])) := Lib.hid (by
        rw [List.take_succ_eq_append_getElem (by rw [← Hn.out]; exact hlt), List.filter_append, snth_eq L k (by rw [← Hn.out]; exact hlt)]
        congr 1
        by_cases h : fullB L[k] = true <;> simp [h])
      obtain ⟨x, hx⟩ : ∃ x, x = snth L k := ⟨_, rfl⟩
      rw [← hx] at g0 htk
      clear hc hv hx
      cases hf : fullB x with
      | false =>
        have hx0 : x = ByteArray.empty := by
          unfold fullB full at hf
          simp at hf
          rcases x with ⟨⟨l⟩⟩
          simp at hf
          subst hf; rfl
        have HE2 : Hid (done = (L.take (k + 1)).filter fullB) := Lib.hid (by rw [htk.out, hf]; simpa using HE.out)
        subst hx0
        clear hf
        go_wp2_with fail
        go_roundw
        case rel => exact ⟨k + 1, D, done, by omega, by go_num, by omega, HD, HE2, HO, hbl⟩
        case measure => simp [intOf]; omega
      | true =>
        have HE2 : Hid (done ++ [x] = (L.take (k + 1)).filter fullB) := Lib.hid (by rw [htk.out, hf, if_pos rfl, ← HE.out])
        have hx0 : x.size ≠ 0 := by
          intro h
          rcases x with ⟨⟨l⟩⟩
          have : l = [] := List.length_eq_zero_iff.1 h
          subst this
          cases hf
        have hne : (!x.toList.isEmpty) = true := by
          cases he : x.toList with
          | nil => exact absurd he (toList_ne hx0)
          | cons a r => rfl
        have hwr := hbl.size
        clear hf hx0
        go_wp2_with (at_builtin; refine wpList_append_own_at _ rfl _ _ 22 rfl w1.heap.size 9 i0 (.string ByteArray.empty) 1 16 Try.underlying22 hi hz0 hz1 hz2 rfl (by decide) _ D _ rfl (HO.out.alloc _) ⟨wr.heap.size, 0, none⟩ 1 1 [.string x] rfl rfl (new_cell _ _ _ _ rfl) (str_one _) ?c2 ?c3 ?c4 ?_)
        case c2 => unfold maxLen; omega
        case c3 => omega
        case c4 => simp; omega
        intro v' w3 hown' hgrow hnil hloc
        have HO3 : Hid (w3.ownsRow w1.heap.size 9 1 v' (D + 1) ((done ++ [x]).map Value.string)) := Lib.hid (by
          rw [List.map_append]; exact hown')
        have hbl3 : Below w1.heap.size w1 w3 := (hbl.alloc hwr _).grown hgrow (by simp; omega) (fun j hj => (HO.out.lt j hj).1)
        have HD3 : Hid (D + 1 = (done ++ [x]).length) := Lib.hid (by rw [List.length_append, ← HD.out]; rfl)
        clear hown' hgrow hnil hloc HO
        obtain ⟨ast', cst', rfl⟩ := owned_slice HO3.out
        go_wp2_with fail
        go_roundw
        case rel => exact ⟨k + 1, D + 1, done ++ [x], by omega, by go_num, by omega, HD3, HE2, HO3, hbl3⟩
        case measure => simp [intOf]; omega
    · obtain rfl : k = n := by omega
      have hfin : Hid (done = wordsF s) := Lib.hid (by rw [HE.out, HF.out, List.take_of_length_le (by rw [Hn.out]; exact Nat.le_refl _)])
      have HR : Hid (OwS wr w1.heap.size (.slice a5 D c5) (wordsF s)) := Lib.hid (by rw [← hfin.out]; exact row_texts HO.out)
      go_wp2_with fail
      go_ret
      exact ⟨_, rfl, Ow.mono HR.out hz, below_trans' hb1 hbl⟩
end Go.Proofs.Ytapmnfmobigdkaa
