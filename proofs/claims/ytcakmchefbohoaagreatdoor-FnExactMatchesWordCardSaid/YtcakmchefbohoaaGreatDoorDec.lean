/- Contracts: decimal numerals, of the program (strconv.FormatInt by the shelf) and of the reference. -/
import Derived.Test.YtcakmchefbohoaaGreatDoorProg
import Derived.Test.YtcakmchefbohoaaGreatDoorMem
import Derived.Test.YtcakmchefbohoaaGreatDoorMath
import Derived.Test.YtcakmchefbohoaaGreatDoorShelf
import Derived.WalkKit
import Derived.BigQuiet
import Derived.Maps.AppendAt
import Derived.Lib.SmallJoins
import Derived.Lib.AppendIntMem
import Derived.Laws.IdiomStrings
import Derived.Lib.LaidTab
import Derived.Lib.Hide
import Derived.Outline
set_option linter.unusedVariables false
set_option linter.unusedSimpArgs false
namespace Go.Proofs.YtcakmchefbohoaaGreatDoor
open Go.RowKit

theorem nDigits_le : ∀ (k u : Nat), u < 10 ^ (k + 1) → Lib.nDigits u ≤ k + 1
  | 0, u, h => by rw [Lib.nDigits_small (by simpa using h)]; exact Nat.le_refl _
  | k + 1, u, h => by
    by_cases h10 : u < 10
    · rw [Lib.nDigits_small h10]; omega
    · rw [Lib.nDigits_big h10]
      have := nDigits_le k (u / 10) (by rw [Nat.pow_succ] at h; omega)
      omega
theorem nil_owned {w : World} (B T : Nat) (hB : B ≤ w.heap.size) : (w.alloc (.cells #[] T)).ownsRow B T 1 (.slice (some ⟨w.heap.size, 0, none⟩) 0 0) 0 [] :=
  ⟨rfl, Or.inr ⟨w.heap.size, 0, #[], rfl, hB, by show (w.heap.push _)[w.heap.size]? = some _; simp, Nat.le_refl _, Nat.zero_le _, rfl, rfl⟩⟩
theorem owned_slice {w : World} {B T sz : Nat} {v : Value} {n : Nat} {xs : List Value} (h : w.ownsRow B T sz v n xs) : ∃ a cap, v = .slice a n cap := by
  rcases h.2 with ⟨rfl, rfl⟩ | ⟨g, cap, cur, rfl, _⟩
  · exact ⟨none, 0, rfl⟩
  · exact ⟨_, cap, rfl⟩
theorem new_cell (w : World) (x : Value) (T n : Nat) (hn : n = w.heap.size) : ∀ j u, [x][j]? = some u → (w.alloc (.cells #[x] T)).cell? ((⟨n, 0, none⟩ : Addr).add j) = some u := by
  intro j u hj
  subst hn
  exact cell_one_new w x T j u hj
/-- The digits of a, none for 0. -/
def decT (a : Nat) : List UInt8 := if a = 0 then [] else Lib.decDigits a
theorem decT_step {a : Nat} (h : 0 < a) : decT a = decT (a / 10) ++ [UInt8.ofNat (48 + a % 10)] := by
  unfold decT
  rw [if_neg (by omega)]
  by_cases h10 : a < 10
  · rw [if_pos (by omega), Lib.decDigits, dif_pos h10, Nat.mod_eq_of_lt h10]; rfl
  · rw [if_neg (by omega)]
    conv => lhs; rw [Lib.decDigits, dif_neg h10]
def u8c (b : UInt8) : Value := .int .u8 (b.toNat : Int)
theorem digit_nat {D : Nat} (h : D ≤ 9) : (UInt8.ofNat (48 + D)).toNat = 48 + D := by
  rw [UInt8.toNat_ofNat']
  omega
theorem u8c_one (l : List UInt8) : ∀ u ∈ l.map u8c, u.oneCell' = true := by
  intro u hu
  obtain ⟨b, _, rfl⟩ := List.mem_map.1 hu
  rfl
theorem infoU8 : (Tryz.prog.info? 5).map (fun i => (i.zero, i.size, i.bytes)) = some (some (.int .u8 0), 1, 1) := by kernel_rfl
/-- The second loop puts the row's bytes in the other order and makes a text of them. -/
theorem take_succ_get {l : List UInt8} {k : Nat} (h : k < l.length) : l.take (k + 1) = l.take k ++ [l[k]] := by rw [List.take_succ_eq_append_getElem h]
set_option maxRecDepth 100000 in
set_option maxHeartbeats 1600000 in
theorem l01Dec_any (n : Int) (w : World) (h0 : -9223372036854775808 ≤ n) (h1 : n ≤ 9223372036854775807) :
    Calls Tryz.prog 96 #[.int .i64 n] w fun e w' => e = .returned (.string ⟨(Lib.itoa n).toArray⟩) ∧ Below w.heap.size w w' := by
  by_cases hz : n = 0
  · subst hz
    have H : Hid (Lib.itoa 0 = [48]) := Lib.hid (by rw [Lib.itoa, if_neg (by omega)]; show Lib.decDigits 0 = _; rw [Lib.decDigits]; rfl)
    go_enter Tryz.func96, Tryz.ntmps96
    go_wp2
    go_ret
    rw [H.out]
    exact ⟨rfl, Below.refl _ _⟩
  obtain ⟨N, hN⟩ : ∃ N, N = n.natAbs := ⟨_, rfl⟩
  have hN0 : 0 < N := by omega
  have hlen : Hid ((Lib.decDigits N).length ≤ 20) := Lib.hid (by rw [Lib.decDigits_length]; exact nDigits_le 19 N (by omega))
  have hzb : (n == 0) = false := by simpa using hz
  obtain ⟨i0, hi, hz0, hz1, hz2⟩ := info_parts infoU8
  obtain ⟨sg, hsg⟩ : ∃ sg : Int, (sg = 1 ∧ 0 < n ∨ sg = -1 ∧ n < 0) := by
    rcases Int.lt_or_gt_of_ne hz with h | h
    · exact ⟨-1, Or.inr ⟨rfl, h⟩⟩
    · exact ⟨1, Or.inl ⟨rfl, h⟩⟩
  have hn : n = sg * (N : Int) := by rcases hsg with ⟨rfl, h⟩ | ⟨rfl, h⟩ <;> omega
  have Hn := Lib.hid hn
  clear hn
  go_enter Tryz.func96, Tryz.ntmps96
  go_wp2
  go_loopw [3, 4] (fun sd sm wr => ∃ (a : Nat) (l : List UInt8), a ≤ N ∧ sm = .int .i64 (sg * (a : Int)) ∧ Hid (Lib.decDigits N = decT a ++ l.reverse) ∧ Hid (wr.ownsRow w.heap.size 5 1 sd l.length (l.map u8c)) ∧ Below w.heap.size w wr) (fun _ sm _ => (intOf sm).natAbs)
  case atStart => exact ⟨N, [], Nat.le_refl _, by rw [Hn.out], Lib.hid (by rw [decT, if_neg (by omega)]; simp), Lib.hid (nil_owned _ _ (Nat.le_refl _)), (Below.refl _ _).alloc (Nat.le_refl _) _⟩
  case round =>
    obtain ⟨a, l, ha, rfl, HD, HO, hbl⟩ := hrel
    have hl20 : l.length ≤ 20 := by
      have := hlen.out
      rw [HD.out, List.length_append, List.length_reverse] at this
      omega
    obtain ⟨a5, c5, rfl⟩ := owned_slice HO.out
    by_cases ha0 : 0 < a
    · have HD2 : Hid (Lib.decDigits N = decT (a / 10) ++ (l ++ [UInt8.ofNat (48 + a % 10)]).reverse) := Lib.hid (by rw [HD.out, decT_step ha0]; simp)
      obtain ⟨D, hD⟩ : ∃ D, D = a % 10 := ⟨_, rfl⟩
      obtain ⟨q, hq⟩ : ∃ q, q = a / 10 := ⟨_, rfl⟩
      have hD9 : D ≤ 9 := by omega
      have hqa : q < a := by omega
      rw [← hD, ← hq] at HD2
      rcases hsg with ⟨rfl, hp⟩ | ⟨rfl, hp⟩
      · have e1 : (a : Int).tmod 10 = (D : Int) := by rw [hD]; exact (Int.ofNat_tmod a 10).symm
        have e2 : (a : Int).tdiv 10 = (q : Int) := by rw [hq]; exact (Int.ofNat_tdiv a 10).symm
        have e3 : a % 10 = D := hD.symm
        have e4 : a / 10 = q := hq.symm
        have e5 : ((a : Int) != 0) = true := by simp; omega
        have e6 : ¬ ((D : Int) < 0) := by omega
        rw [Int.one_mul]
        clear hD hq
        go_wp2_with (at_builtin; refine wpList_append_own_at _ rfl _ _ 109 rfl w.heap.size 5 i0 (.int .u8 0) 1 1 Tryz.underlying109 hi hz0 hz1 hz2 rfl (by decide) _ l.length _ rfl (HO.out.alloc _) ⟨wr.heap.size, 0, none⟩ 1 1 [.int .u8 (48 + (D : Int))] rfl rfl (new_cell _ _ _ _ rfl) (by simp [Value.oneCell']) ?c2 ?c3 ?c4 ?_)
        case c2 => unfold maxLen; omega
        case c3 => omega
        case c4 => have := hbl.size; first | omega | (simp; omega)
        intro v' w1 hown' hgrow hnil hloc
        have HO2 : Hid (w1.ownsRow w.heap.size 5 1 v' (l ++ [UInt8.ofNat (48 + D)]).length ((l ++ [UInt8.ofNat (48 + D)]).map u8c)) := by
          refine Lib.hid ?_
          rw [List.length_append, List.map_append, show [UInt8.ofNat (48 + D)].map u8c = [.int .u8 (48 + (D : Int))] by simp only [List.map_cons, List.map_nil, u8c, digit_nat hD9]; rfl]
          exact hown'
        have hbl2 : Below w.heap.size w w1 := (hbl.alloc hbl.size _).grown hgrow (by have := hbl.size; first | omega | (simp; omega)) (fun j hj => (HO.out.lt j hj).1)
        clear hown' hgrow hnil hloc HO
        go_wp2
        go_roundw
        case rel => exact ⟨q, _, by omega, by rw [Int.one_mul], HD2, HO2, hbl2⟩
        case measure => simp [intOf]; omega
      · have e1 : (-(a : Int)).tmod 10 = -(D : Int) := by rw [Int.neg_tmod, hD]; exact congrArg _ (Int.ofNat_tmod a 10).symm
        have e2 : (-(a : Int)).tdiv 10 = -(q : Int) := by rw [Int.neg_tdiv, hq]; exact congrArg _ (Int.ofNat_tdiv a 10).symm
        have e5 : (-(a : Int) != 0) = true := by simp; omega
        rw [show (-1 : Int) * (a : Int) = -(a : Int) by omega]
        clear hD hq
        by_cases hD0 : D = 0
        · subst hD0
          have e1' : (-(a : Int)).tmod 10 = 0 := by rw [e1]; rfl
          clear e1
          go_wp2_with (at_builtin; refine wpList_append_own_at _ rfl _ _ 109 rfl w.heap.size 5 i0 (.int .u8 0) 1 1 Tryz.underlying109 hi hz0 hz1 hz2 rfl (by decide) _ l.length _ rfl (HO.out.alloc _) ⟨wr.heap.size, 0, none⟩ 1 1 [.int .u8 48] rfl rfl (new_cell _ _ _ _ rfl) (by simp [Value.oneCell']) ?c2 ?c3 ?c4 ?_)
          case c2 => unfold maxLen; omega
          case c3 => omega
          case c4 => have := hbl.size; first | omega | (simp; omega)
          intro v' w1 hown' hgrow hnil hloc
          have HO2 : Hid (w1.ownsRow w.heap.size 5 1 v' (l ++ [UInt8.ofNat (48 + 0)]).length ((l ++ [UInt8.ofNat (48 + 0)]).map u8c)) := by
            refine Lib.hid ?_
            rw [List.length_append, List.map_append, show [UInt8.ofNat (48 + 0)].map u8c = [.int .u8 48] by simp only [List.map_cons, List.map_nil, u8c, digit_nat hD9]; rfl]
            exact hown'
          have hbl2 : Below w.heap.size w w1 := (hbl.alloc hbl.size _).grown hgrow (by have := hbl.size; first | omega | (simp; omega)) (fun j hj => (HO.out.lt j hj).1)
          clear hown' hgrow hnil hloc HO
          go_wp2
          go_roundw
          case rel => exact ⟨q, _, by omega, by rw [show (-1 : Int) * (q : Int) = -(q : Int) by omega], HD2, HO2, hbl2⟩
          case measure => simp [intOf]; omega
        · have e6 : -(D : Int) < 0 := by omega
          have e7 : 0 < D := by omega
          go_wp2_with (at_builtin; refine wpList_append_own_at _ rfl _ _ 109 rfl w.heap.size 5 i0 (.int .u8 0) 1 1 Tryz.underlying109 hi hz0 hz1 hz2 rfl (by decide) _ l.length _ rfl (HO.out.alloc _) ⟨wr.heap.size, 0, none⟩ 1 1 [.int .u8 (48 + (D : Int))] rfl rfl (new_cell _ _ _ _ rfl) (by simp [Value.oneCell']) ?c2 ?c3 ?c4 ?_)
          case c2 => unfold maxLen; omega
          case c3 => omega
          case c4 => have := hbl.size; first | omega | (simp; omega)
          intro v' w1 hown' hgrow hnil hloc
          have HO2 : Hid (w1.ownsRow w.heap.size 5 1 v' (l ++ [UInt8.ofNat (48 + D)]).length ((l ++ [UInt8.ofNat (48 + D)]).map u8c)) := by
            refine Lib.hid ?_
            rw [List.length_append, List.map_append, show [UInt8.ofNat (48 + D)].map u8c = [.int .u8 (48 + (D : Int))] by simp only [List.map_cons, List.map_nil, u8c, digit_nat hD9]; rfl]
            exact hown'
          have hbl2 : Below w.heap.size w w1 := (hbl.alloc hbl.size _).grown hgrow (by have := hbl.size; first | omega | (simp; omega)) (fun j hj => (HO.out.lt j hj).1)
          clear hown' hgrow hnil hloc HO
          go_wp2
          go_roundw
          case rel => exact ⟨q, _, by omega, by rw [show (-1 : Int) * (q : Int) = -(q : Int) by omega], HD2, HO2, hbl2⟩
          case measure => simp [intOf]; omega
    · obtain rfl : a = 0 := by omega
      rw [show sg * ((0 : Nat) : Int) = 0 by simp]
      have hd0 : Lib.decDigits N = l.reverse := by rw [HD.out, decT, if_pos rfl, List.nil_append]
      have hl0 : 0 < l.length := by
        have h9 := congrArg List.length hd0
        rw [Lib.decDigits_length, List.length_reverse] at h9
        have := Lib.nDigits_pos N
        omega
      have Hd0 := Lib.hid hd0
      clear hd0 HD
      rcases hsg with ⟨rfl, hp⟩ | ⟨rfl, hp⟩
      · have HR : Hid (l.reverse = Lib.itoa n) := Lib.hid (by rw [← Hd0.out, Lib.itoa, if_neg (by omega), hN]; congr 1; omega)
        have hpn : ¬ n < 0 := by omega
        have hL0 := hl0
        obtain ⟨R, hR⟩ : ∃ R, R = l := ⟨_, rfl⟩
        rw [← hR] at HR hl20 hL0 HO ⊢
        have HOR := HO
        clear hR HO hl0 Hd0
        obtain ⟨wo, hwo⟩ : ∃ wo : World, wo = wr := ⟨_, rfl⟩
        rw [← hwo] at hbl HOR ⊢
        clear hwo
        obtain ⟨L, hL⟩ : ∃ L, L = R.length := ⟨_, rfl⟩
        obtain ⟨B2, hB2⟩ : ∃ B2, B2 = wo.heap.size := ⟨_, rfl⟩
        have hBw : w.heap.size ≤ B2 := by rw [hB2]; exact hbl.size
        have hRd : Rd wo 1 (.slice a5 R.length c5) R.length (fun i => u8c (R.getD i 0)) := (ownsRow_ow HOR.out _ fun i hi => by
          rw [List.getElem?_map, List.getElem?_eq_getElem (by omega)]
          simp [show i < R.length by omega]).rd
        obtain ⟨_, _, e9, _, hm9, hcr⟩ := hRd
        cases e9
        obtain ⟨bR, oR, rfl, hbR, hcr⟩ := hcr hL0
        rw [← hL]
        have hcr2 : ∀ i, i < L → wo.cell? ⟨bR, oR + i, none⟩ = some (u8c (R.getD i 0)) := fun i hi => hcr i (by omega)
        have Hcr := Lib.hid hcr2
        have hbla : Below B2 wo (wo.alloc (.cells #[] 5)) := (Below.refl _ _).alloc (by rw [hB2]; exact Nat.le_refl _) _
        have HO0 : Hid ((wo.alloc (.cells #[] 5)).ownsRow B2 5 1 (.slice (some ⟨wo.heap.size, 0, none⟩) 0 0) 0 []) := Lib.hid (nil_owned _ _ (by rw [hB2]; exact Nat.le_refl _))
        have hL21 : L ≤ 21 := by omega
        have hL1 : 0 < L := by omega
        have HL := Lib.hid hL
        have HB2 := Lib.hid hB2
        clear hcr hcr2 hB2 hL
        go_wp2
        go_loopw [6, 7] (fun so si wr => ∃ k : Nat, k ≤ L ∧ si = .int .i64 ((L : Int) - 1 - (k : Int)) ∧ Hid (wr.ownsRow B2 5 1 so k ((R.reverse.take k).map u8c)) ∧ Below B2 wo wr) (fun _ si _ => (intOf si + 1).toNat)
        case atStart => exact ⟨0, Nat.zero_le _, by go_num, by simpa using HO0, hbla⟩
        case round =>
          clear HO0 hbla
          obtain ⟨k, hk, rfl, HX, hbx⟩ := hrel
          obtain ⟨a6, c6, rfl⟩ := owned_slice HX.out
          by_cases hlt : k < L
          · obtain ⟨j, hj⟩ : ∃ j : Nat, (L : Int) - 1 - (k : Int) = (j : Int) := ⟨L - 1 - k, by omega⟩
            have hg := (hbx.cell (by rw [HB2.out]; exact hbR)).trans (Hcr.out j (by omega))
            obtain ⟨b, hb⟩ : ∃ b, b = R.getD j 0 := ⟨_, rfl⟩
            rw [← hb] at hg
            unfold u8c at hg
            have HT : Hid (R.reverse.take (k + 1) = R.reverse.take k ++ [b]) := Lib.hid (by
              have h1 := HL.out
              rw [take_succ_get (by rw [List.length_reverse]; omega), hb]
              congr 2
              rw [List.getElem_reverse]
              simp only [List.getD_eq_getElem?_getD]
              rw [List.getElem?_eq_getElem (by omega)]
              simp only [Option.getD_some]
              congr 1
              omega)
            rw [hj]
            have hjp : (0 : Int) ≤ (j : Int) := by omega
            clear hb
            go_wp2_with (at_builtin; refine wpList_append_own_at _ rfl _ _ 109 rfl B2 5 i0 (.int .u8 0) 1 1 Tryz.underlying109 hi hz0 hz1 hz2 rfl (by decide) _ k _ rfl (HX.out.alloc _) ⟨wr.heap.size, 0, none⟩ 1 1 [.int .u8 (b.toNat : Int)] rfl rfl (new_cell _ _ _ _ rfl) (by simp [Value.oneCell']) ?c2 ?c3 ?c4 ?_)
            case c2 => unfold maxLen; omega
            case c3 => omega
            case c4 => have := hbx.size; have := HB2.out; first | omega | (simp; omega)
            intro v' w1 hown' hgrow hnil hloc
            have HX2 : Hid (w1.ownsRow B2 5 1 v' (k + 1) ((R.reverse.take (k + 1)).map u8c)) := by
              refine Lib.hid ?_
              rw [HT.out, List.map_append, List.map_take, List.map_reverse]
              exact hown'
            have hbx2 : Below B2 wo w1 := (hbx.alloc (by have := hbx.size; have := HB2.out; omega) _).grown hgrow (by have := hbx.size; have := HB2.out; first | omega | (simp; omega)) (fun j hj => (HX.out.lt j hj).1)
            clear hown' hgrow hnil hloc HX
            go_wp2
            go_roundw
            case rel => exact ⟨k + 1, by omega, by rw [show (L : Int) - 1 - ((k + 1 : Nat) : Int) = (j : Int) - 1 by omega], HX2, hbx2⟩
            case measure => simp [intOf] <;> omega
          · obtain rfl : L = k := by omega
            have hfull : (R.reverse.take L) = Lib.itoa n := by
              rw [List.take_of_length_le (by rw [List.length_reverse]; have := HL.out; omega), HR.out]
            rw [hfull] at HX
            have hil : (Lib.itoa n).length = L := by rw [← HR.out, List.length_reverse, ← HL.out]
            have hOw := ownsRow_ow HX.out (fun i => u8c ((Lib.itoa n).getD i 0)) fun i hi => by
              rw [List.getElem?_map, List.getElem?_eq_getElem (by omega)]
              simp [show i < (Lib.itoa n).length by omega]
            obtain ⟨_, _, e9, _, _, hcx⟩ := hOw
            cases e9
            obtain ⟨bX, oX, rfl, _, _, hcx⟩ := hcx (by rw [HL.out]; exact hL0)
            have hcv := run_convert_bytes_back (P := Tryz.prog) wr 109 9 5 ⟨bX, oX, none⟩ c6 (Lib.itoa n) Tryz.underlying109 Tryz.underlying5 Tryz.underlying9 (fun j hj => by
              rw [Addr.add_lit, (hcx j (by omega)).1]
              simp [u8c, hj])
            rw [hil] at hcv
            have hsm : ¬ ((0 : Int) ≤ (L : Int) - 1 - (L : Int)) := by omega
            obtain ⟨z, hz5⟩ : ∃ z, z = (L : Int) - 1 - (L : Int) := ⟨_, rfl⟩
            rw [← hz5] at hsm ⊢
            have hzn : z < 0 := by omega
            clear hz5 hcx
            have hbw : Below w.heap.size w wr := hbl.trans (hbx.mono hBw)
            go_wp2
            go_ret
            exact ⟨rfl, hbw⟩
      · have hpn : n < 0 := hp
        go_wp2_with (at_builtin; refine wpList_append_own_at _ rfl _ _ 109 rfl w.heap.size 5 i0 (.int .u8 0) 1 1 Tryz.underlying109 hi hz0 hz1 hz2 rfl (by decide) _ l.length _ rfl (HO.out.alloc _) ⟨wr.heap.size, 0, none⟩ 1 1 [.int .u8 45] rfl rfl (new_cell _ _ _ _ rfl) (by simp [Value.oneCell']) ?c2 ?c3 ?c4 ?_)
        case c2 => unfold maxLen; omega
        case c3 => omega
        case c4 => have := hbl.size; first | omega | (simp; omega)
        intro v' w1 hown' hgrow hnil hloc
        have hbl2 : Below w.heap.size w w1 := (hbl.alloc hbl.size _).grown hgrow (by have := hbl.size; first | omega | (simp; omega)) (fun j hj => (HO.out.lt j hj).1)
        obtain ⟨R, hR⟩ : ∃ R, R = l ++ [45] := ⟨_, rfl⟩
        have hRl : R.length = l.length + 1 := by rw [hR, List.length_append]; rfl
        have HOR : Hid (w1.ownsRow w.heap.size 5 1 v' R.length (R.map u8c)) := Lib.hid (by rw [hRl, hR, List.map_append]; exact hown')
        have HR : Hid (R.reverse = Lib.itoa n) := Lib.hid (by rw [hR, List.reverse_append, Lib.itoa, if_pos hp, ← hN, Hd0.out]; rfl)
        obtain ⟨a5', c5', rfl⟩ := owned_slice HOR.out
        have hL0 : 0 < R.length := by omega
        have hl20' : R.length ≤ 21 := by omega
        clear hown' hgrow hnil hloc HO hl0 Hd0 hR hRl hbl hl20
        obtain ⟨wo, hwo⟩ : ∃ wo : World, wo = w1 := ⟨_, rfl⟩
        rw [← hwo] at hbl2 HOR ⊢
        clear hwo
        obtain ⟨L, hL⟩ : ∃ L, L = R.length := ⟨_, rfl⟩
        obtain ⟨B2, hB2⟩ : ∃ B2, B2 = wo.heap.size := ⟨_, rfl⟩
        have hBw : w.heap.size ≤ B2 := by rw [hB2]; exact hbl2.size
        have hRd : Rd wo 1 (.slice a5' R.length c5') R.length (fun i => u8c (R.getD i 0)) := (ownsRow_ow HOR.out _ fun i hi => by
          rw [List.getElem?_map, List.getElem?_eq_getElem (by omega)]
          simp [show i < R.length by omega]).rd
        obtain ⟨_, _, e9, _, hm9, hcr⟩ := hRd
        cases e9
        obtain ⟨bR, oR, rfl, hbR, hcr⟩ := hcr hL0
        rw [← hL]
        have hcr2 : ∀ i, i < L → wo.cell? ⟨bR, oR + i, none⟩ = some (u8c (R.getD i 0)) := fun i hi => hcr i (by omega)
        have Hcr := Lib.hid hcr2
        have hbl2a : Below B2 wo (wo.alloc (.cells #[] 5)) := (Below.refl _ _).alloc (by rw [hB2]; exact Nat.le_refl _) _
        have HO0 : Hid ((wo.alloc (.cells #[] 5)).ownsRow B2 5 1 (.slice (some ⟨wo.heap.size, 0, none⟩) 0 0) 0 []) := Lib.hid (nil_owned _ _ (by rw [hB2]; exact Nat.le_refl _))
        have hL21 : L ≤ 21 := by omega
        have hL1 : 0 < L := by omega
        have HL := Lib.hid hL
        have HB2 := Lib.hid hB2
        clear hcr hcr2 hB2 hL
        go_wp2
        go_loopw [6, 7] (fun so si wr => ∃ k : Nat, k ≤ L ∧ si = .int .i64 ((L : Int) - 1 - (k : Int)) ∧ Hid (wr.ownsRow B2 5 1 so k ((R.reverse.take k).map u8c)) ∧ Below B2 wo wr) (fun _ si _ => (intOf si + 1).toNat)
        case atStart => exact ⟨0, Nat.zero_le _, by go_num, by simpa using HO0, hbl2a⟩
        case round =>
          clear HO0 hbl2a
          obtain ⟨k, hk, rfl, HX, hbx⟩ := hrel
          obtain ⟨a6, c6, rfl⟩ := owned_slice HX.out
          by_cases hlt : k < L
          · obtain ⟨j, hj⟩ : ∃ j : Nat, (L : Int) - 1 - (k : Int) = (j : Int) := ⟨L - 1 - k, by omega⟩
            have hg := (hbx.cell (by rw [HB2.out]; exact hbR)).trans (Hcr.out j (by omega))
            obtain ⟨b, hb⟩ : ∃ b, b = R.getD j 0 := ⟨_, rfl⟩
            rw [← hb] at hg
            unfold u8c at hg
            have HT : Hid (R.reverse.take (k + 1) = R.reverse.take k ++ [b]) := Lib.hid (by
              have h1 := HL.out
              rw [take_succ_get (by rw [List.length_reverse]; omega), hb]
              congr 2
              rw [List.getElem_reverse]
              simp only [List.getD_eq_getElem?_getD]
              rw [List.getElem?_eq_getElem (by omega)]
              simp only [Option.getD_some]
              congr 1
              omega)
            rw [hj]
            have hjp : (0 : Int) ≤ (j : Int) := by omega
            clear hb
            go_wp2_with (at_builtin; refine wpList_append_own_at _ rfl _ _ 109 rfl B2 5 i0 (.int .u8 0) 1 1 Tryz.underlying109 hi hz0 hz1 hz2 rfl (by decide) _ k _ rfl (HX.out.alloc _) ⟨wr.heap.size, 0, none⟩ 1 1 [.int .u8 (b.toNat : Int)] rfl rfl (new_cell _ _ _ _ rfl) (by simp [Value.oneCell']) ?c2 ?c3 ?c4 ?_)
            case c2 => unfold maxLen; omega
            case c3 => omega
            case c4 => have := hbx.size; have := HB2.out; first | omega | (simp; omega)
            intro v' w1 hown' hgrow hnil hloc
            have HX2 : Hid (w1.ownsRow B2 5 1 v' (k + 1) ((R.reverse.take (k + 1)).map u8c)) := by
              refine Lib.hid ?_
              rw [HT.out, List.map_append, List.map_take, List.map_reverse]
              exact hown'
            have hbx2 : Below B2 wo w1 := (hbx.alloc (by have := hbx.size; have := HB2.out; omega) _).grown hgrow (by have := hbx.size; have := HB2.out; first | omega | (simp; omega)) (fun j hj => (HX.out.lt j hj).1)
            clear hown' hgrow hnil hloc HX
            go_wp2
            go_roundw
            case rel => exact ⟨k + 1, by omega, by rw [show (L : Int) - 1 - ((k + 1 : Nat) : Int) = (j : Int) - 1 by omega], HX2, hbx2⟩
            case measure => simp [intOf] <;> omega
          · obtain rfl : L = k := by omega
            have hfull : (R.reverse.take L) = Lib.itoa n := by
              rw [List.take_of_length_le (by rw [List.length_reverse]; have := HL.out; omega), HR.out]
            rw [hfull] at HX
            have hil : (Lib.itoa n).length = L := by rw [← HR.out, List.length_reverse, ← HL.out]
            have hOw := ownsRow_ow HX.out (fun i => u8c ((Lib.itoa n).getD i 0)) fun i hi => by
              rw [List.getElem?_map, List.getElem?_eq_getElem (by omega)]
              simp [show i < (Lib.itoa n).length by omega]
            obtain ⟨_, _, e9, _, _, hcx⟩ := hOw
            cases e9
            obtain ⟨bX, oX, rfl, _, _, hcx⟩ := hcx (by rw [HL.out]; exact hL0)
            have hcv := run_convert_bytes_back (P := Tryz.prog) wr 109 9 5 ⟨bX, oX, none⟩ c6 (Lib.itoa n) Tryz.underlying109 Tryz.underlying5 Tryz.underlying9 (fun j hj => by
              rw [Addr.add_lit, (hcx j (by omega)).1]
              simp [u8c, hj])
            rw [hil] at hcv
            have hsm : ¬ ((0 : Int) ≤ (L : Int) - 1 - (L : Int)) := by omega
            obtain ⟨z, hz5⟩ : ∃ z, z = (L : Int) - 1 - (L : Int) := ⟨_, rfl⟩
            rw [← hz5] at hsm ⊢
            have hzn : z < 0 := by omega
            clear hz5 hcx
            have hbw : Below w.heap.size w wr := hbl2.trans (hbx.mono hBw)
            go_wp2
            go_ret
            exact ⟨rfl, hbw⟩
/-- The table of powers of ten lies as the program lays it. -/
def PowTab (w : World) : Prop := Lib.TabIs Tryz.prog w (Tryz.prog.globals[5]!.name) .u64 Lib.pow10Tab
theorem PowTab.below {w w' : World} (h : PowTab w) (hb : Below w.heap.size w w') : PowTab w' :=
  Joins.var_stays (g := 5) (by kernel_rfl) h hb (Nat.le_refl _)
theorem laidMet_tail {P : Program} {x : String × DataW Unit} {r : List (String × DataW Unit)} {w : World} (h : laidMet P (x :: r) w) : laidMet P r w := by
  obtain ⟨n, d⟩ := x
  obtain ⟨ps, ⟨g, t, cs, fuel, p, q, _, _, _, _, hr, e⟩, hn, hc⟩ := h
  subst e
  exact ⟨q, hr, (List.nodup_append.1 hn).2.1, fun b off hm => hc b off (List.mem_append_right _ hm)⟩
theorem pow_tab {W : World} {rest : List (String × DataW Unit)} (h : laidMet Tryz.prog ((Tryz.prog.globals[5]!.name, Lib.tabData .u64 Lib.pow10Tab) :: rest) W) : PowTab W :=
  Lib.tabIs_of_head (g := 5) (by kernel_rfl) (by kernel_rfl) Tryz.underlying236 Tryz.underlying185 (by kernel_rfl) (by kernel_rfl) h
theorem Decimal_any (n : Int) (w : World) (h0 : -9223372036854775808 ≤ n) (h1 : n ≤ 9223372036854775807) (hT : PowTab w) :
    Calls Tryz.prog 136 #[.int .i64 n] w fun e w' => e = .returned (.string ⟨(Lib.itoa n).toArray⟩) ∧ Below w.heap.size w w' := by
  go_enter Tryz.func136, Tryz.ntmps136
  go_wp2_with fail
  refine (Tryz_strconv_FormatInt_10 n h0 h1 _ hT).mono ?_
  rintro e w' ⟨rfl, k, os, rfl⟩
  have hb := Lib.below_grow w.heap.size w (Nat.le_refl _) k os
  generalize Sort.grow (w.drewN k) os = w1 at *
  go_wp2_with fail
  go_ret
  exact ⟨rfl, hb⟩
end Go.Proofs.YtcakmchefbohoaaGreatDoor
