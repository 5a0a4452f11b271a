/- Contracts: all tokens, by the program. -/
import Derived.Test.YtcakmchefbohoaaDoorProg
import Derived.Test.YtcakmchefbohoaaDoorMem
import Derived.Test.YtcakmchefbohoaaDoorMath
import Derived.Test.YtcakmchefbohoaaDoorBasics
import Derived.Test.YtcakmchefbohoaaDoorHelpI
import Derived.Test.YtcakmchefbohoaaDoorOpenI
import Derived.Test.YtcakmchefbohoaaDoorGrid
import Derived.Test.YtcakmchefbohoaaDoorOper
import Derived.Test.YtcakmchefbohoaaDoorShelf
import Derived.Test.YtcakmchefbohoaaDoorDec
import Derived.Test.YtcakmchefbohoaaDoorNum
import Derived.Test.YtcakmchefbohoaaDoorText
import Derived.Test.YtcakmchefbohoaaDoorLab
import Derived.Test.YtcakmchefbohoaaDoorRead
import Derived.Test.YtcakmchefbohoaaDoorEnv
import Derived.Test.YtcakmchefbohoaaDoorTok
import Derived.Test.YtcakmchefbohoaaDoorTokU
import Derived.Test.YtcakmchefbohoaaDoorTokV
import Derived.Test.YtcakmchefbohoaaDoorTokS
import Derived.Laws.OwnMore
import Derived.WalkKit
import Derived.BigQuiet
import Derived.Maps.AppendAt
import Derived.Lib.Hide
import Derived.Outline
set_option linter.unusedVariables false
set_option linter.unusedSimpArgs false
namespace Go.Proofs.YtcakmchefbohoaaDoor
open Go.RowKit

theorem infoTok : (Tryd.prog.info? 36).map (fun i => (i.zero, i.size, i.bytes)) = some (some (.agg #[.string ByteArray.empty, .int .i64 0]), 2, 24) := by kernel_rfl
def pnth (l : List (Nat × Nat)) (i : Nat) : Nat × Nat := l.getD i (0, 0)
def tkc (s : ByteArray) (l : List (Nat × Nat)) (j : Nat) : Value := if j % 2 = 0 then .string (s.extract (pnth l (j / 2)).1 (pnth l (j / 2)).2) else .int .i64 ((pnth l (j / 2)).1 : Nat)
def tkC (s : ByteArray) (l : List (Nat × Nat)) : List Value := (List.range (l.length * 2)).map (tkc s l)
theorem tkC_len (s : ByteArray) (l : List (Nat × Nat)) : (tkC s l).length = l.length * 2 := by simp [tkC]
theorem tkC_get (s : ByteArray) (l : List (Nat × Nat)) {i : Nat} (h : i < l.length * 2) : (tkC s l)[i]? = some (tkc s l i) := by
  unfold tkC
  rw [List.getElem?_map, List.getElem?_range h]; rfl
theorem pnth_left (l g : List (Nat × Nat)) {i : Nat} (h : i < l.length) : pnth (l ++ g) i = pnth l i := by
  unfold pnth
  rw [List.getD_eq_getElem?_getD, List.getD_eq_getElem?_getD, List.getElem?_append_left h]
theorem pnth_last (l : List (Nat × Nat)) (x : Nat × Nat) : pnth (l ++ [x]) l.length = x := by
  unfold pnth
  rw [List.getD_eq_getElem?_getD, List.getElem?_append_right (Nat.le_refl _), Nat.sub_self]; rfl
theorem tkC_snoc (s : ByteArray) (l : List (Nat × Nat)) (k E : Nat) : tkC s l ++ [.string (s.extract k E), .int .i64 (k : Int)] = tkC s (l ++ [(k, E)]) := by
  unfold tkC
  rw [show (l ++ [(k, E)]).length * 2 = l.length * 2 + 1 + 1 by simp; omega, List.range_succ, List.range_succ, List.map_append, List.map_append, List.append_assoc]
  congr 1
  · refine List.map_congr_left fun i hi => ?_
    have h2 : i < l.length * 2 := by simpa using hi
    unfold tkc
    rw [pnth_left l _ (show i / 2 < l.length by omega)]
  · have e1 : tkc s (l ++ [(k, E)]) (l.length * 2) = .string (s.extract k E) := by
      unfold tkc
      rw [if_pos (by omega), show l.length * 2 / 2 = l.length by omega, pnth_last]
    have e2 : tkc s (l ++ [(k, E)]) (l.length * 2 + 1) = .int .i64 (k : Int) := by
      unfold tkc
      rw [if_neg (by omega), show (l.length * 2 + 1) / 2 = l.length by omega, pnth_last]
    simp [e1, e2]
theorem tk_new (w : World) (x y : Value) (T n : Nat) (hn : n = w.heap.size) : ∀ j u, [x, y][j]? = some u → (w.alloc (.cells #[x, y] T)).cell? ((⟨n, 0, none⟩ : Addr).add j) = some u := by
  intro j u hj
  subst hn
  rw [Addr.add_lit, cell_of_row _ _ _ _ _ _ (heap_alloc_new w _)]
  rw [Nat.zero_add]
  match j, hj with
  | 0, hj => exact hj
  | 1, hj => exact hj
set_option maxRecDepth 100000 in
set_option maxHeartbeats 6400000 in
theorem tokens_any (s : ByteArray) (w : World) (hs : s.size ≤ 1048576) (hT : Env3 w) (hX : TextTab w) :
    Calls Tryd.prog 14 #[.string s] w fun e w' => ∃ u bad l, e = .returned (.tuple #[u, .int .i64 bad]) ∧ ((scanE s 0 = some l ∧ bad = -1 ∧ w'.ownsRow w.heap.size 36 2 u l.length (tkC s l)) ∨ (scanE s 0 = none ∧ 0 ≤ bad)) ∧ Below w.heap.size w w' := by
  obtain ⟨i0, hi, hz0, hz1, hz2⟩ := info_parts infoTok
  have HT := Lib.hid hT
  have HX := Lib.hid hX
  clear hT hX
  have HQ : Hid (scanE s 0 = (scanE s 0).map ([] ++ ·)) := Lib.hid (by cases scanE s 0 <;> rfl)
  go_enter Tryd.func14, Tryd.ntmps14
  go_wp2_with fail
  go_loopw [4, 5] (fun so si wr => ∃ (k D : Nat) (l : List (Nat × Nat)), si = .int .i64 k ∧ k ≤ s.size ∧ D ≤ k ∧ Hid (D = l.length) ∧ Hid (scanE s 0 = (scanE s k).map (l ++ ·)) ∧ Hid (wr.ownsRow w.heap.size 36 2 so D (tkC s l)) ∧ Below w.heap.size w wr) (fun _ si _ => s.size - (intOf si).toNat)
  case atStart => exact ⟨0, 0, [], rfl, Nat.zero_le _, Nat.le_refl _, Lib.hid rfl, HQ, Lib.hid (World.ownsRow_nil _ _ _ _), Below.refl _ _⟩
  case round =>
    obtain ⟨k, D, l, rfl, hk, hD, HDl, HS, HO, hbl⟩ := hrel
    obtain ⟨a5, c5, rfl⟩ := owned_slice HO.out
    have hzr := hbl.size
    by_cases hlt : k < s.size
    · have hck : (s[k].toNat : Int) = bt s k := bt_eq s k hlt
      obtain ⟨k1, hk1⟩ : ∃ k1, k1 = k + 1 := ⟨_, rfl⟩
      have H1 := Lib.hid hk1
      have hpc : (k : Int) + 1 = (k1 : Int) := by omega
      have hpl : k1 ≤ s.size := by omega
      have hpp : k ≤ k1 := by omega
      have hkk : k < k1 := by omega
      clear hk1
      by_cases h32 : bt s k = 32
      · have b32 : (bt s k == 32) = true := by simpa using h32
        have HS2 : Hid (scanE s 0 = (scanE s k1).map (l ++ ·)) := Lib.hid (by rw [H1.out, ← scan_blank hlt h32]; exact HS.out)
        clear h32
        go_wp2_with fail
        go_roundw
        case rel => exact ⟨k1, D, l, by go_num, hpl, by omega, HDl, HS2, HO, hbl⟩
        case measure => simp [intOf]; omega
      · have b32 : (bt s k == 32) = false := by simpa using h32
        have hbd := endI_bd hlt
        have HTK : Hid (isTokB (s.extract k (endI s k)) = true → scanE s 0 = (scanE s (endI s k)).map ((l ++ [(k, endI s k)]) ++ ·)) := Lib.hid fun ht => by
          rw [HS.out, scan_tok hlt h32 ht]
          cases scanE s (endI s k) <;> simp
        have HNO : Hid (isTokB (s.extract k (endI s k)) = false → scanE s 0 = none) := Lib.hid fun ht => by rw [HS.out, scan_none hlt h32 ht]; rfl
        clear h32
        cases hd : digit (bt s k) with
        | true =>
          have hE0 : endI s k = runE digit s (k + 1) := by unfold endI numOrV; rw [hd]; rfl
          rw [← H1.out] at hE0
          obtain ⟨E, hE⟩ : ∃ E, E = runE digit s k1 := ⟨_, rfl⟩
          rw [← hE] at hE0
          rw [hE0] at hbd HTK HNO
          have HE := Lib.hid hE
          obtain ⟨hbd1, hbd2⟩ := hbd
          have hle : k ≤ E := by omega
          clear hE hE0
          have hz := ext_size s k E
          cases ht : isTokB (s.extract k E) with
          | true =>
            have HS2 := Lib.hid (HTK.out ht)
            clear HTK HNO
            go_wp2_with fail
            refine (isDigit_any (bt s k) _).mono ?_
            rw [hd]
            rintro e w' ⟨rfl, rfl⟩
            go_wp2_with fail
            refine (digitsEnd_any s k1 _ hs (by omega)).mono ?_
            rw [← HE.out]
            rintro e w' ⟨rfl, rfl⟩
            go_wp2_with fail
            refine (isToken_any (s.extract k E) _ (by omega) (HT.out.below hbl) (HX.out.below hbl)).mono ?_
            rw [ht]
            rintro e w1 ⟨rfl, hb1⟩
            have hbl1 := below_trans' hbl hb1
            clear ht
            have HO1 := Lib.hid (ownsRow_below HO.out hb1)
            have hz1' := hbl1.size
            clear HO
            go_wp2_with (at_builtin; refine wpList_append_own_at _ rfl _ _ 32 rfl w.heap.size 36 i0 (.agg #[.string ByteArray.empty, .int .i64 0]) 2 24 Tryd.underlying32 hi hz0 hz1 hz2 rfl (by decide) _ D _ rfl (HO1.out.alloc _) ⟨w1.heap.size, 0, none⟩ 1 1 [.string (s.extract k E), .int .i64 k] rfl rfl (tk_new _ _ _ _ _ rfl) (by simp [Value.oneCell']) ?c2 ?c3 ?c4 ?_)
            case c2 => unfold maxLen; omega
            case c3 => omega
            case c4 => first | omega | (simp; omega)
            intro v1 w2 hown1 hgrow1 hnil1 hloc1
            have hbl2 : Below w.heap.size w w2 := (hbl1.alloc hbl1.size _).grown hgrow1 (by first | omega | (simp; omega)) (fun j hj => (HO1.out.lt j hj).1)
            have HO2 : Hid (w2.ownsRow w.heap.size 36 2 v1 (D + 1) (tkC s (l ++ [(k, E)]))) := Lib.hid (by rw [← tkC_snoc]; exact hown1)
            have HD2 : Hid (D + 1 = (l ++ [(k, E)]).length) := Lib.hid (by rw [List.length_append, ← HDl.out]; rfl)
            clear hown1 hgrow1 hnil1 hloc1 HO1
            go_wp2_with fail
            go_roundw
            case rel => exact ⟨E, D + 1, _, by go_num, by omega, by omega, HD2, HS2, HO2, hbl2⟩
            case measure => simp [intOf]; omega
          | false =>
            have HS2 := Lib.hid (HNO.out ht)
            clear HTK HNO
            go_wp2_with fail
            refine (isDigit_any (bt s k) _).mono ?_
            rw [hd]
            rintro e w' ⟨rfl, rfl⟩
            go_wp2_with fail
            refine (digitsEnd_any s k1 _ hs (by omega)).mono ?_
            rw [← HE.out]
            rintro e w' ⟨rfl, rfl⟩
            go_wp2_with fail
            refine (isToken_any (s.extract k E) _ (by omega) (HT.out.below hbl) (HX.out.below hbl)).mono ?_
            rw [ht]
            rintro e w1 ⟨rfl, hb1⟩
            have hbl1 := below_trans' hbl hb1
            clear ht
            go_wp2_with fail
            go_ret2
            exact ⟨_, _, [], rfl, Or.inr ⟨HS2.out, by omega⟩, hbl1⟩
        | false =>
          by_cases h118 : bt s k = 118
          · have b118 : (bt s k == 118) = true := by simpa using h118
            have hE0 : endI s k = runE digit s (k + 1) := by unfold endI numOrV; rw [decide_eq_true h118, Bool.or_true]; rfl
            rw [← H1.out] at hE0
            obtain ⟨E, hE⟩ : ∃ E, E = runE digit s k1 := ⟨_, rfl⟩
            rw [← hE] at hE0
            rw [hE0] at hbd HTK HNO
            have HE := Lib.hid hE
            obtain ⟨hbd1, hbd2⟩ := hbd
            have hle : k ≤ E := by omega
            clear hE hE0
            clear h118
            have hz := ext_size s k E
            cases ht : isTokB (s.extract k E) with
            | true =>
              have HS2 := Lib.hid (HTK.out ht)
              clear HTK HNO
              go_wp2_with fail
              refine (isDigit_any (bt s k) _).mono ?_
              rw [hd]
              rintro e w' ⟨rfl, rfl⟩
              go_wp2_with fail
              refine (digitsEnd_any s k1 _ hs (by omega)).mono ?_
              rw [← HE.out]
              rintro e w' ⟨rfl, rfl⟩
              go_wp2_with fail
              refine (isToken_any (s.extract k E) _ (by omega) (HT.out.below hbl) (HX.out.below hbl)).mono ?_
              rw [ht]
              rintro e w1 ⟨rfl, hb1⟩
              have hbl1 := below_trans' hbl hb1
              clear ht
              have HO1 := Lib.hid (ownsRow_below HO.out hb1)
              have hz1' := hbl1.size
              clear HO
              go_wp2_with (at_builtin; refine wpList_append_own_at _ rfl _ _ 32 rfl w.heap.size 36 i0 (.agg #[.string ByteArray.empty, .int .i64 0]) 2 24 Tryd.underlying32 hi hz0 hz1 hz2 rfl (by decide) _ D _ rfl (HO1.out.alloc _) ⟨w1.heap.size, 0, none⟩ 1 1 [.string (s.extract k E), .int .i64 k] rfl rfl (tk_new _ _ _ _ _ rfl) (by simp [Value.oneCell']) ?c2 ?c3 ?c4 ?_)
              case c2 => unfold maxLen; omega
              case c3 => omega
              case c4 => first | omega | (simp; omega)
              intro v1 w2 hown1 hgrow1 hnil1 hloc1
              have hbl2 : Below w.heap.size w w2 := (hbl1.alloc hbl1.size _).grown hgrow1 (by first | omega | (simp; omega)) (fun j hj => (HO1.out.lt j hj).1)
              have HO2 : Hid (w2.ownsRow w.heap.size 36 2 v1 (D + 1) (tkC s (l ++ [(k, E)]))) := Lib.hid (by rw [← tkC_snoc]; exact hown1)
              have HD2 : Hid (D + 1 = (l ++ [(k, E)]).length) := Lib.hid (by rw [List.length_append, ← HDl.out]; rfl)
              clear hown1 hgrow1 hnil1 hloc1 HO1
              go_wp2_with fail
              go_roundw
              case rel => exact ⟨E, D + 1, _, by go_num, by omega, by omega, HD2, HS2, HO2, hbl2⟩
              case measure => simp [intOf]; omega
            | false =>
              have HS2 := Lib.hid (HNO.out ht)
              clear HTK HNO
              go_wp2_with fail
              refine (isDigit_any (bt s k) _).mono ?_
              rw [hd]
              rintro e w' ⟨rfl, rfl⟩
              go_wp2_with fail
              refine (digitsEnd_any s k1 _ hs (by omega)).mono ?_
              rw [← HE.out]
              rintro e w' ⟨rfl, rfl⟩
              go_wp2_with fail
              refine (isToken_any (s.extract k E) _ (by omega) (HT.out.below hbl) (HX.out.below hbl)).mono ?_
              rw [ht]
              rintro e w1 ⟨rfl, hb1⟩
              have hbl1 := below_trans' hbl hb1
              clear ht
              go_wp2_with fail
              go_ret2
              exact ⟨_, _, [], rfl, Or.inr ⟨HS2.out, by omega⟩, hbl1⟩
          · have b118 : (bt s k == 118) = false := by simpa using h118
            have hN : numOrV (bt s k) = false := by unfold numOrV; rw [hd, decide_eq_false h118]; rfl
            clear h118
            cases hl : lt2 s k with
            | true =>
              have hE0 : endI s k = k + 2 := by unfold endI; rw [hN, hl]; rfl
              obtain ⟨E, hE⟩ : ∃ E, E = k + 2 := ⟨_, rfl⟩
              rw [← hE] at hE0
              rw [hE0] at hbd HTK HNO
              have hpe : (k : Int) + 2 = (E : Int) := by omega
              obtain ⟨hbd1, hbd2⟩ := hbd
              have hle : k ≤ E := by omega
              clear hE hE0 hN
              have hz := ext_size s k E
              cases ht : isTokB (s.extract k E) with
              | true =>
                have HS2 := Lib.hid (HTK.out ht)
                clear HTK HNO
                go_wp2_with fail
                refine (isDigit_any (bt s k) _).mono ?_
                rw [hd]
                rintro e w' ⟨rfl, rfl⟩
                go_wp2_with fail
                refine (Tryd_strings_HasPrefix (s.extract k s.size) ⟨#[60, 61]⟩ _).mono ?_
                rw [show ({ data := #[60, 61] } : ByteArray).data.toList = [60, 61] from rfl, lt2_pre hlt, hl]
                rintro e w' ⟨rfl, rfl⟩
                go_wp2_with fail
                refine (isToken_any (s.extract k E) _ (by omega) (HT.out.below hbl) (HX.out.below hbl)).mono ?_
                rw [ht]
                rintro e w1 ⟨rfl, hb1⟩
                have hbl1 := below_trans' hbl hb1
                clear ht
                have HO1 := Lib.hid (ownsRow_below HO.out hb1)
                have hz1' := hbl1.size
                clear HO
                go_wp2_with (at_builtin; refine wpList_append_own_at _ rfl _ _ 32 rfl w.heap.size 36 i0 (.agg #[.string ByteArray.empty, .int .i64 0]) 2 24 Tryd.underlying32 hi hz0 hz1 hz2 rfl (by decide) _ D _ rfl (HO1.out.alloc _) ⟨w1.heap.size, 0, none⟩ 1 1 [.string (s.extract k E), .int .i64 k] rfl rfl (tk_new _ _ _ _ _ rfl) (by simp [Value.oneCell']) ?c2 ?c3 ?c4 ?_)
                case c2 => unfold maxLen; omega
                case c3 => omega
                case c4 => first | omega | (simp; omega)
                intro v1 w2 hown1 hgrow1 hnil1 hloc1
                have hbl2 : Below w.heap.size w w2 := (hbl1.alloc hbl1.size _).grown hgrow1 (by first | omega | (simp; omega)) (fun j hj => (HO1.out.lt j hj).1)
                have HO2 : Hid (w2.ownsRow w.heap.size 36 2 v1 (D + 1) (tkC s (l ++ [(k, E)]))) := Lib.hid (by rw [← tkC_snoc]; exact hown1)
                have HD2 : Hid (D + 1 = (l ++ [(k, E)]).length) := Lib.hid (by rw [List.length_append, ← HDl.out]; rfl)
                clear hown1 hgrow1 hnil1 hloc1 HO1
                go_wp2_with fail
                go_roundw
                case rel => exact ⟨E, D + 1, _, by go_num, by omega, by omega, HD2, HS2, HO2, hbl2⟩
                case measure => simp [intOf]; omega
              | false =>
                have HS2 := Lib.hid (HNO.out ht)
                clear HTK HNO
                go_wp2_with fail
                refine (isDigit_any (bt s k) _).mono ?_
                rw [hd]
                rintro e w' ⟨rfl, rfl⟩
                go_wp2_with fail
                refine (Tryd_strings_HasPrefix (s.extract k s.size) ⟨#[60, 61]⟩ _).mono ?_
                rw [show ({ data := #[60, 61] } : ByteArray).data.toList = [60, 61] from rfl, lt2_pre hlt, hl]
                rintro e w' ⟨rfl, rfl⟩
                go_wp2_with fail
                refine (isToken_any (s.extract k E) _ (by omega) (HT.out.below hbl) (HX.out.below hbl)).mono ?_
                rw [ht]
                rintro e w1 ⟨rfl, hb1⟩
                have hbl1 := below_trans' hbl hb1
                clear ht
                go_wp2_with fail
                go_ret2
                exact ⟨_, _, [], rfl, Or.inr ⟨HS2.out, by omega⟩, hbl1⟩
            | false =>
              have hE0 : endI s k = k + 1 := by unfold endI; rw [hN, hl]; rfl
              rw [← H1.out] at hE0
              rw [hE0] at hbd HTK HNO
              clear hE0 hN hbd
              have hz := ext_size s k k1
              cases ht : isTokB (s.extract k k1) with
              | true =>
                have HS2 := Lib.hid (HTK.out ht)
                clear HTK HNO
                go_wp2_with fail
                refine (isDigit_any (bt s k) _).mono ?_
                rw [hd]
                rintro e w' ⟨rfl, rfl⟩
                go_wp2_with fail
                refine (Tryd_strings_HasPrefix (s.extract k s.size) ⟨#[60, 61]⟩ _).mono ?_
                rw [show ({ data := #[60, 61] } : ByteArray).data.toList = [60, 61] from rfl, lt2_pre hlt, hl]
                rintro e w' ⟨rfl, rfl⟩
                go_wp2_with fail
                refine (isToken_any (s.extract k k1) _ (by omega) (HT.out.below hbl) (HX.out.below hbl)).mono ?_
                rw [ht]
                rintro e w1 ⟨rfl, hb1⟩
                have hbl1 := below_trans' hbl hb1
                clear ht
                have HO1 := Lib.hid (ownsRow_below HO.out hb1)
                have hz1' := hbl1.size
                clear HO
                go_wp2_with (at_builtin; refine wpList_append_own_at _ rfl _ _ 32 rfl w.heap.size 36 i0 (.agg #[.string ByteArray.empty, .int .i64 0]) 2 24 Tryd.underlying32 hi hz0 hz1 hz2 rfl (by decide) _ D _ rfl (HO1.out.alloc _) ⟨w1.heap.size, 0, none⟩ 1 1 [.string (s.extract k k1), .int .i64 k] rfl rfl (tk_new _ _ _ _ _ rfl) (by simp [Value.oneCell']) ?c2 ?c3 ?c4 ?_)
                case c2 => unfold maxLen; omega
                case c3 => omega
                case c4 => first | omega | (simp; omega)
                intro v1 w2 hown1 hgrow1 hnil1 hloc1
                have hbl2 : Below w.heap.size w w2 := (hbl1.alloc hbl1.size _).grown hgrow1 (by first | omega | (simp; omega)) (fun j hj => (HO1.out.lt j hj).1)
                have HO2 : Hid (w2.ownsRow w.heap.size 36 2 v1 (D + 1) (tkC s (l ++ [(k, k1)]))) := Lib.hid (by rw [← tkC_snoc]; exact hown1)
                have HD2 : Hid (D + 1 = (l ++ [(k, k1)]).length) := Lib.hid (by rw [List.length_append, ← HDl.out]; rfl)
                clear hown1 hgrow1 hnil1 hloc1 HO1
                go_wp2_with fail
                go_roundw
                case rel => exact ⟨k1, D + 1, _, by go_num, by omega, by omega, HD2, HS2, HO2, hbl2⟩
                case measure => simp [intOf]; omega
              | false =>
                have HS2 := Lib.hid (HNO.out ht)
                clear HTK HNO
                go_wp2_with fail
                refine (isDigit_any (bt s k) _).mono ?_
                rw [hd]
                rintro e w' ⟨rfl, rfl⟩
                go_wp2_with fail
                refine (Tryd_strings_HasPrefix (s.extract k s.size) ⟨#[60, 61]⟩ _).mono ?_
                rw [show ({ data := #[60, 61] } : ByteArray).data.toList = [60, 61] from rfl, lt2_pre hlt, hl]
                rintro e w' ⟨rfl, rfl⟩
                go_wp2_with fail
                refine (isToken_any (s.extract k k1) _ (by omega) (HT.out.below hbl) (HX.out.below hbl)).mono ?_
                rw [ht]
                rintro e w1 ⟨rfl, hb1⟩
                have hbl1 := below_trans' hbl hb1
                clear ht
                go_wp2_with fail
                go_ret2
                exact ⟨_, _, [], rfl, Or.inr ⟨HS2.out, by omega⟩, hbl1⟩
    · have HG : Hid (scanE s 0 = some l) := Lib.hid (by rw [HS.out, scan_end hlt]; simp)
      go_wp2_with fail
      go_ret2
      exact ⟨_, _, l, rfl, Or.inl ⟨HG.out, rfl, by rw [← HDl.out]; exact HO.out⟩, hbl⟩
end Go.Proofs.YtcakmchefbohoaaDoor
