/- Contracts: the blocks of a partition, of the program and of the reference. -/
import Derived.Test.YtcakmchefbohoaaGreatDoorProg
import Derived.Test.YtcakmchefbohoaaGreatDoorMem
import Derived.Test.YtcakmchefbohoaaGreatDoorMath
import Derived.Test.YtcakmchefbohoaaGreatDoorBasics
import Derived.Test.YtcakmchefbohoaaGreatDoorHelpI
import Derived.Test.YtcakmchefbohoaaGreatDoorHelpII
import Derived.Test.YtcakmchefbohoaaGreatDoorGrid
import Derived.Test.YtcakmchefbohoaaGreatDoorPart
import Derived.Test.YtcakmchefbohoaaGreatDoorPartW
import Derived.WalkKit
import Derived.BigQuiet
import Derived.BigRegion
import Derived.Maps.AppendAt
import Derived.Deep.QuietTactic
import Derived.Lib.Hide
import Derived.Outline
set_option linter.unusedVariables false
set_option linter.unusedSimpArgs false
namespace Go.Proofs.YtcakmchefbohoaaGreatDoor
open Go.RowKit

/-- The items below i that lie in block b; all blocks below m. -/
def itemsTo (p : List Int) (b i : Nat) : List Int := ((List.range i).filter fun j => nth p j == (b : Int)).map Int.ofNat
def blocksTo (p : List Int) (m i : Nat) : List (List Int) := (List.range m).map fun b => itemsTo p b i
def blocksL (p : List Int) : List (List Int) := blocksTo p (nx p p.length) p.length
theorem blocksTo_length (p : List Int) (m i : Nat) : (blocksTo p m i).length = m := by simp [blocksTo]
theorem rnth_blocksTo (p : List Int) (m i b : Nat) (h : b < m) : rnth (blocksTo p m i) b = itemsTo p b i := by simp [rnth, blocksTo, h]
theorem itemsTo_yes {p : List Int} {b i : Nat} (h : nth p i = (b : Int)) : itemsTo p b (i + 1) = itemsTo p b i ++ [(i : Int)] := by
  unfold itemsTo
  rw [List.range_succ, List.filter_append, List.map_append]
  simp [h]
theorem itemsTo_no {p : List Int} {b i : Nat} (h : nth p i ≠ (b : Int)) : itemsTo p b (i + 1) = itemsTo p b i := by
  unfold itemsTo
  rw [List.range_succ, List.filter_append, List.map_append]
  simp [h]
theorem itemsTo_none {p : List Int} {b i : Nat} (h : ∀ j, j < i → nth p j ≠ (b : Int)) : itemsTo p b i = [] := by
  unfold itemsTo
  rw [List.map_eq_nil_iff, List.filter_eq_nil_iff]
  intro j hj
  simpa using h j (by simpa using hj)
theorem itemsTo_length (p : List Int) (b i : Nat) : (itemsTo p b i).length ≤ i := by
  unfold itemsTo
  rw [List.length_map]
  exact Nat.le_trans (List.length_filter_le _ _) (by simp)
theorem rows_ext {xss yss : List (List Int)} (hl : xss.length = yss.length) (h : ∀ i, i < xss.length → rnth xss i = rnth yss i) : xss = yss := by
  refine List.ext_getElem hl fun i h1 h2 => ?_
  have := h i h1
  rwa [rnth_eq xss i h1, rnth_eq yss i h2] at this
theorem blocks_step {p : List Int} {m k b : Nat} (hb : nth p k = (b : Int)) (hm : b < m) : (blocksTo p m k).set b (itemsTo p b k ++ [(k : Int)]) = blocksTo p m (k + 1) := by
  refine rows_ext (by rw [List.length_set, blocksTo_length, blocksTo_length]) fun i hi => ?_
  rw [List.length_set, blocksTo_length] at hi
  rw [rnth_set _ _ _ _ (by rw [blocksTo_length]; exact hm), rnth_blocksTo p m (k + 1) i hi]
  by_cases e : i = b
  · rw [if_pos e, e, itemsTo_yes hb]
  · rw [if_neg e, rnth_blocksTo p m k i hi, itemsTo_no (by rw [hb]; omega)]
theorem blocks_new {p : List Int} {m k : Nat} (h : ∀ j, j < k → nth p j ≠ (m : Int)) : blocksTo p m k ++ [[]] = blocksTo p (m + 1) k := by
  unfold blocksTo
  rw [List.range_succ, List.map_append, List.map_cons, List.map_nil, itemsTo_none h]
theorem part_nb {p : List Int} (h : isPart p = true) (i : Nat) (hi : i < p.length) : nth p i = (nb p i : Int) := (isPart_iff.1 h).2.2 i hi
set_option maxHeartbeats 1000000 in
theorem blocks_any (vp : Value) (p : List Int) (w : World) (hpart : isPart p = true) (rp : RdI w vp p) :
    Calls Tryz.prog 109 #[vp] w fun e w' => ∃ u, e = .returned u ∧ InII w' w.heap.size w'.heap.size u (blocksL p) ∧ Below w.heap.size w w' := by
  have h40 := (isPart_iff.1 hpart).2.1
  have Hp := Lib.hid hpart; clear hpart
  obtain ⟨a, cap, rfl, hcap, hm, rp⟩ := rp
  unfold maxLen at hm
  obtain ⟨i0, hi, hz0, hz1, hz2⟩ := info_parts infoIS'
  obtain ⟨j0, gi, gz0, gz1, gz2⟩ := info_parts infoI64
  go_enter Tryz.func109, Tryz.ntmps109
  go_wp2
  go_loopw [3, 8] (fun so si wr => ∃ k : Nat, k ≤ p.length ∧ si = .int .i64 k ∧ OwR wr w.heap.size 47 2 so (blocksTo p (nx p k) k) ∧ Below w.heap.size w wr) (fun _ si _ => p.length - (intOf si).toNat)
  case atStart => exact ⟨0, Nat.zero_le _, rfl, OwR_nil _ _ _ _, Below.refl _ _⟩
  case round =>
    obtain ⟨k, hk, rfl, hG, hbl⟩ := hrel
    obtain ⟨X, hX⟩ : ∃ X, X = blocksTo p (nx p k) k := ⟨_, rfl⟩
    rw [← hX] at hG
    have hXl : X.length = nx p k := by rw [hX, blocksTo_length]
    have hnk := nx_le p k
    have HX := Lib.hid hX; clear hX
    obtain ⟨ao, co, rfl⟩ := hG.len
    rw [hXl]
    rw [hXl] at hG
    obtain ⟨q, hq⟩ : ∃ q, q = nx p k := ⟨_, rfl⟩
    rw [← hq] at hXl hG hnk ⊢
    have Hq := Lib.hid hq; clear hq
    have HXl := Lib.hid hXl; clear hXl
    by_cases hlt : k < p.length
    · obtain ⟨b1, o1, rfl, hb1, hc1⟩ := rp (by omega)
      have hpn := part_nb Hp.out k hlt
      have hnl := nb_le p k
      obtain ⟨b, hb⟩ : ∃ b, b = nb p k := ⟨_, rfl⟩
      rw [← hb] at hpn hnl
      have hnl2 : b ≤ q := by rw [Hq.out]; exact hnl
      have Hb := Lib.hid hb; clear hb hnl
      have g1 : wr.cell? ⟨b1, o1 + k, none⟩ = some (.int .i64 b) := (hbl.cell (by exact hb1)).trans (by rw [hc1 k (by omega), ic, hpn])
      have Hpn := Lib.hid hpn
      clear hc1 hpn
      by_cases hnew : b = q
      · subst hnew
        have hnn : ∀ j, j < k → nth p j ≠ (b : Int) := fun j hj e => by
          have h1 := nb_lt p hj
          rw [part_nb Hp.out j (by omega)] at e
          have := Hq.out
          omega
        have hnx : nx p (k + 1) = b + 1 := by
          rw [Hq.out]
          exact (nb_new (fun j hj e => hnn j hj (by rw [e]; exact Hpn.out))).2
        have Hnn := Lib.hid hnn
        have Hnx := Lib.hid hnx
        clear hnn hnx
        obtain ⟨vs, hGv⟩ := hG
        have hown : wr.ownsRow w.heap.size 47 1 (.slice ao b co) b vs := by have := hGv.1; rwa [HXl.out] at this
        have HGv := Lib.hid hGv; clear hGv
        go_wp2_with (at_builtin; refine wpList_append_own_at _ rfl _ _ 89 rfl w.heap.size 47 i0 (.slice none 0 0) 1 24 Tryz.underlying89 hi hz0 hz1 hz2 rfl (by decide) _ _ _ rfl (hown.alloc _) ⟨wr.heap.size, 0, none⟩ 1 1 [.slice none 0 0] rfl rfl ?c1 (oneCell_slice _ _ _) ?c2 ?c3 ?c4 ?_)
        case c1 => exact cell_one_new' _ _ _ _ rfl
        case c2 => unfold maxLen; omega
        case c3 => omega
        case c4 => simp; have := hbl.size; omega
        intro v' w1 hown' hgrow hnil hloc
        have hG2 : OwR w1 w.heap.size 47 2 v' (X ++ [[]]) := by
          refine (HGv.out.below ((Below.refl _ _).alloc (Nat.le_refl _) _)).appendNil (by rw [HXl.out]; exact hown') hgrow (hloc.imp id fun e => ⟨_, e, by simp⟩)
        have hb2 : Below w.heap.size w w1 := ((hbl.alloc hbl.size _).grown hgrow (by simp; have := hbl.size; omega) (fun j hj => (hown.lt j hj).1))
        rw [HX.out, ← Hq.out, blocks_new Hnn.out] at hG2
        obtain ⟨Y, hY⟩ : ∃ Y, Y = blocksTo p (b + 1) k := ⟨_, rfl⟩
        rw [← hY] at hG2
        have hYl : Y.length = b + 1 := by rw [hY, blocksTo_length]
        have hYb : rnth Y b = itemsTo p b k := by rw [hY, rnth_blocksTo _ _ _ _ (by omega)]
        have hil := itemsTo_length p b k
        obtain ⟨us, hGu⟩ := hG2
        obtain ⟨g, cg, x, e1, e2, e3, e4, e5⟩ := hGu.row b (by omega)
        obtain ⟨ax, cx, e6⟩ := ownsRow_slice e4
        rw [hYl] at e1
        rw [hYb] at e4 e6
        subst e1
        subst e6
        have hHY := Lib.hid hY
        have hHYl := Lib.hid hYl
        have hHYb := Lib.hid hYb
        have hHGu := Lib.hid hGu
        have hHe2 := Lib.hid e2
        have hHe5 := Lib.hid e5
        have hbM : b < b + 1 := by omega
        have hbM' : (b : Int) < ((b : Int) + 1) := by omega
        clear hY hYl hYb hGu e2 e5 hown hown' hgrow hnil hloc
        go_wp2_with (at_builtin; refine wpList_append_own_at _ rfl _ _ 47 rfl w.heap.size 2 j0 (.int .i64 0) 1 8 Tryz.underlying47 gi gz0 gz1 gz2 rfl (by decide) _ _ _ rfl (e4.alloc _) ⟨w1.heap.size, 0, none⟩ 1 1 [.int .i64 k] rfl rfl ?c1 (ints_oneCell .i64 [(k : Int)]) ?c2 ?c3 ?c4 ?_)
        case c1 => exact cell_one_new' _ _ _ _ rfl
        case c2 => unfold maxLen; omega
        case c3 => omega
        case c4 => simp; have := hb2.size; omega
        intro x' w2 rown rgrow rnil rloc
        have hgall := (World.grownBy_alloc w1 (.cells #[.int .i64 k] 2) (Value.ownBlock (.slice ax (itemsTo p b k).length cx))).trans rgrow
        obtain ⟨f1, f2⟩ := hHe5.out w2 hgall
        have hG3 := hHGu.out.rowAppend hHYl.out.symm (by rw [hHYl.out]; omega) hHe2.out (by rw [hHYb.out]; exact rown) hgall (rloc.imp id fun e => ⟨_, e, by simp⟩)
        obtain ⟨ay, cy, e7⟩ := ownsRow_slice rown
        subst e7
        rw [hHYb.out, hHY.out, blocks_step Hpn.out hbM] at hG3
        have hGn : OwR (w2.setCell ⟨g, b, none⟩ (.slice ay ((itemsTo p b k).length + 1) cy)) w.heap.size 47 2 (.slice (some ⟨g, 0, none⟩) (b + 1) cg) (blocksTo p (nx p (k + 1)) (k + 1)) := by
          rw [Hnx.out]; exact hG3
        have hg0 : w.heap.size ≤ g := (hHGu.out.1.lt g rfl).1
        have hb3 : Below w.heap.size w (w2.setCell ⟨g, b, none⟩ (.slice ay ((itemsTo p b k).length + 1) cy)) := (((hb2.alloc hb2.size _).grown rgrow (by simp; have := hb2.size; omega) (fun j hj => (e4.lt j hj).1))).setCell hg0 _
        have HG := Lib.hid hGn
        clear rown rgrow rnil rloc hgall hG3 hGn e4
        go_wp2_with fail
        go_roundw
        case rel => exact ⟨k + 1, by omega, by go_num, HG.out, hb3⟩
        case measure => simp [intOf]; omega
      · have hbq : b < q := by omega
        have hhas : ∃ j, j < k ∧ nth p j = nth p k := by
          obtain ⟨j, hj, e⟩ := nb_onto p k b (by have := Hq.out; omega)
          exact ⟨j, hj, by rw [part_nb Hp.out j (by omega), e, Hpn.out]⟩
        obtain ⟨j, hj, ej⟩ := hhas
        have Hnx : Hid (nx p (k + 1) = q) := Lib.hid (by rw [Hq.out]; exact (nb_old hj ej).2)
        have heqb : ((b : Int) == (q : Int)) = false := by simp; omega
        have hG2 : OwR wr w.heap.size 47 2 (.slice ao q co) (blocksTo p q k) := by
          have := HX.out
          rw [← Hq.out] at this
          rw [← this]; exact hG
        clear hG ej hj hnew
        obtain ⟨Y, hY⟩ : ∃ Y, Y = blocksTo p q k := ⟨_, rfl⟩
        rw [← hY] at hG2
        have hYl : Y.length = q := by rw [hY, blocksTo_length]
        have hYb : rnth Y b = itemsTo p b k := by rw [hY, rnth_blocksTo _ _ _ _ (by omega)]
        have hil := itemsTo_length p b k
        obtain ⟨us, hGu⟩ := hG2
        obtain ⟨g, cg, x, e1, e2, e3, e4, e5⟩ := hGu.row b (by omega)
        obtain ⟨ax, cx, e6⟩ := ownsRow_slice e4
        rw [hYl] at e1
        rw [hYb] at e4 e6
        cases e1
        subst e6
        have hHY := Lib.hid hY
        have hHYl := Lib.hid hYl
        have hHYb := Lib.hid hYb
        have hHGu := Lib.hid hGu
        have hHe2 := Lib.hid e2
        have hHe5 := Lib.hid e5
        have hbM : b < q := by omega
        have hbM' : (b : Int) < (q : Int) := by omega
        clear hY hYl hYb hGu e2 e5
        go_wp2_with (at_builtin; refine wpList_append_own_at _ rfl _ _ 47 rfl w.heap.size 2 j0 (.int .i64 0) 1 8 Tryz.underlying47 gi gz0 gz1 gz2 rfl (by decide) _ _ _ rfl (e4.alloc _) ⟨wr.heap.size, 0, none⟩ 1 1 [.int .i64 k] rfl rfl ?c1 (ints_oneCell .i64 [(k : Int)]) ?c2 ?c3 ?c4 ?_)
        case c1 => exact cell_one_new' _ _ _ _ rfl
        case c2 => unfold maxLen; omega
        case c3 => omega
        case c4 => simp; have := hbl.size; omega
        intro x' w2 rown rgrow rnil rloc
        have hgall := (World.grownBy_alloc wr (.cells #[.int .i64 k] 2) (Value.ownBlock (.slice ax (itemsTo p b k).length cx))).trans rgrow
        obtain ⟨f1, f2⟩ := hHe5.out w2 hgall
        have hG3 := hHGu.out.rowAppend hHYl.out.symm (by rw [hHYl.out]; omega) hHe2.out (by rw [hHYb.out]; exact rown) hgall (rloc.imp id fun e => ⟨_, e, by simp⟩)
        obtain ⟨ay, cy, e7⟩ := ownsRow_slice rown
        subst e7
        rw [hHYb.out, hHY.out, blocks_step Hpn.out hbM] at hG3
        have hGn : OwR (w2.setCell ⟨g, b, none⟩ (.slice ay ((itemsTo p b k).length + 1) cy)) w.heap.size 47 2 (.slice (some ⟨g, 0, none⟩) q co) (blocksTo p (nx p (k + 1)) (k + 1)) := by
          rw [Hnx.out]; exact hG3
        have hg0 : w.heap.size ≤ g := (hHGu.out.1.lt g rfl).1
        have hb3 : Below w.heap.size w (w2.setCell ⟨g, b, none⟩ (.slice ay ((itemsTo p b k).length + 1) cy)) := (((hbl.alloc hbl.size _).grown rgrow (by simp; have := hbl.size; omega) (fun j hj => (e4.lt j hj).1))).setCell hg0 _
        have HG := Lib.hid hGn
        clear rown rgrow rnil rloc hgall hG3 hGn e4
        go_wp2_with fail
        go_roundw
        case rel => exact ⟨k + 1, by omega, by go_num, HG.out, hb3⟩
        case measure => simp [intOf]; omega
    · go_wp2
      go_ret
      obtain rfl : k = p.length := by omega
      refine ⟨_, rfl, ?_, hbl⟩
      unfold blocksL
      rw [← HX.out]
      exact hG.inn hbl.size
theorem l00Max_any (a b : Int) (w : World) : Calls Tryz.prog 158 #[.int .i64 a, .int .i64 b] w fun e w' => e = .returned (.int .i64 (if b < a then a else b)) ∧ w = w' := by
  by_cases h : b < a
  · rw [if_pos h]
    go_enter Tryz.func158, Tryz.ntmps158
    go_wp2
    go_ret
    exact ⟨rfl, rfl⟩
  · rw [if_neg h]
    go_enter Tryz.func158, Tryz.ntmps158
    go_wp2
    go_ret
    exact ⟨rfl, rfl⟩
theorem count_step {p : List Int} {k : Nat} (hk : nth p k = (nb p k : Int)) (hall : ∀ i, i < k → nth p i = (nb p i : Int)) : (if nth p k + 1 < (nx p k : Int) then (nx p k : Int) else nth p k + 1) = (nx p (k + 1) : Int) := by
  by_cases h : ∃ j, j < k ∧ nth p j = nth p k
  · obtain ⟨j, hj, e⟩ := h
    have h1 := nb_old hj e
    have h2 := nb_lt p hj
    rw [h1.2, hk]
    rw [h1.1]
    split <;> omega
  · have hn : ∀ j, j < k → nth p j ≠ nth p k := fun j hj e => h ⟨j, hj, e⟩
    have h1 := nb_new hn
    rw [h1.2, hk, h1.1, if_neg (by omega)]
    omega
theorem l02Count_any (vp : Value) (p : List Int) (w : World) (hpart : isPart p = true) (rp : RdI w vp p) :
    Calls Tryz.prog 130 #[vp] w fun e w' => e = .returned (.int .i64 (nx p p.length)) ∧ w = w' := by
  have h40 := (isPart_iff.1 hpart).2.1
  have Hp := Lib.hid hpart; clear hpart
  obtain ⟨a, cap, rfl, hcap, hm, rp⟩ := rp
  unfold maxLen at hm
  go_enter Tryz.func130, Tryz.ntmps130
  go_wp2
  go_loop [3, 4] (fun sn si => ∃ k : Nat, k ≤ p.length ∧ si = .int .i64 k ∧ sn = .int .i64 (nx p k)) (fun _ si => p.length - (intOf si).toNat)
  case atStart => exact ⟨0, Nat.zero_le _, rfl, rfl⟩
  case round =>
    obtain ⟨k, hk, rfl, rfl⟩ := hrel
    by_cases hlt : k < p.length
    · obtain ⟨b1, o1, rfl, hb1, hc1⟩ := rp (by omega)
      have g1 : w.cell? ⟨b1, o1 + k, none⟩ = some (.int .i64 (nth p k)) := hc1 k (by omega)
      have hbd := part_bd Hp.out k hlt
      have hb0 := hbd.1
      have hb2 : nth p k ≤ 40 := by omega
      have hst := count_step (part_nb Hp.out k hlt) fun i hi => part_nb Hp.out i (by omega)
      have Hst := Lib.hid hst
      obtain ⟨q, hq⟩ : ∃ q, q = nx p k := ⟨_, rfl⟩
      rw [← hq]
      have Hq := Lib.hid hq
      clear hst hc1 hbd hq
      go_wp2_with fail
      refine (l00Max_any _ _ _).mono ?_
      rintro e w1 ⟨rfl, rfl⟩
      rw [Hq.out, Hst.out]
      go_wp2_with fail
      go_round
      case rel => exact ⟨k + 1, by omega, by go_num, rfl⟩
      case measure => simp [intOf]; omega
    · go_wp2_with fail
      go_ret
      obtain rfl : k = p.length := by omega
      exact ⟨rfl, rfl⟩
theorem blocksTo_succ (p : List Int) (m i : Nat) : blocksTo p (m + 1) i = blocksTo p m i ++ [itemsTo p m i] := by
  unfold blocksTo
  rw [List.range_succ, List.map_append]
  rfl
/-- A row that the call has made since w0. -/
theorem ownsRow_inI {w0 w : World} {E : Nat} {v : Value} {n : Nat} {zs : List Int} (h : w.ownsRow w0.heap.size E 1 v n (zs.map (Value.int .i64))) : InI w w0.heap.size w.heap.size v zs := (ownsRow_owI h).inn
set_option maxHeartbeats 1000000 in
theorem l02Blocks_any (vp : Value) (p : List Int) (w : World) (hpart : isPart p = true) (rp : RdI w vp p) :
    Calls Tryz.prog 95 #[vp] w fun e w' => ∃ u, e = .returned u ∧ InII w' w.heap.size w'.heap.size u (blocksL p) ∧ Below w.heap.size w w' := by
  have h40 := (isPart_iff.1 hpart).2.1
  have Hp := Lib.hid hpart; clear hpart
  have hnl := nx_le p p.length
  have Rp := Lib.hid rp
  obtain ⟨a, cap, rfl, hcap, hm, rp⟩ := rp
  unfold maxLen at hm
  obtain ⟨i0, hi, hz0, hz1, hz2⟩ := info_parts infoIS'
  obtain ⟨j0, gi, gz0, gz1, gz2⟩ := info_parts infoI64
  obtain ⟨M, hM⟩ : ∃ M, M = nx p p.length := ⟨_, rfl⟩
  unfold blocksL
  rw [← hM] at hnl ⊢
  have HM := Lib.hid hM; clear hM
  go_enter Tryz.func95, Tryz.ntmps95
  go_wp2_with fail
  refine (l02Count_any _ p _ Hp.out (Rp.out.below ((Below.refl _ _).alloc (Nat.le_refl _) _))).mono ?_
  rw [← HM.out]
  rintro e w' ⟨rfl, rfl⟩
  go_wp2_with fail
  go_loopw [3, 5] (fun so sb wr => ∃ k : Nat, k ≤ M ∧ sb = .int .i64 k ∧ OwG wr w.heap.size 47 so (blocksTo p k p.length) ∧ Below w.heap.size w wr) (fun _ sb _ => M - (intOf sb).toNat)
  case atStart => exact ⟨0, Nat.zero_le _, rfl, OwG_made _ _ _ (Nat.le_refl _), (Below.refl _ _).alloc (Nat.le_refl _) _⟩
  case round =>
    obtain ⟨k, hk, rfl, hG, hbl⟩ := hrel
    obtain ⟨X, hX⟩ : ∃ X, X = blocksTo p k p.length := ⟨_, rfl⟩
    rw [← hX] at hG
    have hXl : X.length = k := by rw [hX, blocksTo_length]
    have HX := Lib.hid hX; clear hX
    obtain ⟨ao, co, rfl⟩ := hG.len
    rw [hXl]
    rw [hXl] at hG
    have HXl := Lib.hid hXl; clear hXl
    by_cases hlt : k < M
    · obtain ⟨wo, hwo⟩ : ∃ wo : World, wo = wr := ⟨_, rfl⟩
      rw [← hwo] at hbl hG ⊢
      have Hwo := Lib.hid hwo; clear hwo
      obtain ⟨vs, hGv⟩ := hG
      have HGv := Lib.hid hGv; clear hGv
      go_wp2_with fail
      go_loopw [6, 7] (fun sk si wi => ∃ j : Nat, j ≤ p.length ∧ si = .int .i64 j ∧ wi.ownsRow wo.heap.size 2 1 sk (itemsTo p k j).length ((itemsTo p k j).map (Value.int .i64)) ∧ Below wo.heap.size wo wi) (fun _ si _ => p.length - (intOf si).toNat)
      case atStart => exact ⟨0, Nat.zero_le _, rfl, World.ownsRow_made _ #[] 0 (Nat.le_refl _) (by unfold maxLen; omega) rfl, (Below.refl _ _).alloc (Nat.le_refl _) _⟩
      case round =>
        obtain ⟨j, hj, rfl, hown, hbi⟩ := hrel
        have hil := itemsTo_length p k j
        obtain ⟨ai, ci, rfl⟩ := ownsRow_slice hown
        obtain ⟨Z, hZ⟩ : ∃ Z, Z = itemsTo p k j := ⟨_, rfl⟩
        rw [← hZ] at hown hil ⊢
        have HZ := Lib.hid hZ; clear hZ
        have hbw : Below w.heap.size w wr := hbl.trans (hbi.mono hbl.size)
        by_cases hjl : j < p.length
        · obtain ⟨b1, o1, rfl, hb1, hc1⟩ := rp (by omega)
          have g1 : wr.cell? ⟨b1, o1 + j, none⟩ = some (.int .i64 (nth p j)) := (hbw.cell (by exact hb1)).trans (hc1 j (by omega))
          clear hc1
          by_cases he : nth p j = (k : Int)
          · have heb : (nth p j == (k : Int)) = true := by simp [he]
            have hs := itemsTo_yes he
            rw [← HZ.out] at hs
            have Hs := Lib.hid hs
            clear hs he
            go_wp2_with (at_builtin; refine wpList_append_own_at _ rfl _ _ 47 rfl wo.heap.size 2 j0 (.int .i64 0) 1 8 Tryz.underlying47 gi gz0 gz1 gz2 rfl (by decide) _ _ _ rfl (hown.alloc _) ⟨wr.heap.size, 0, none⟩ 1 1 [.int .i64 j] rfl rfl ?c1 (ints_oneCell .i64 [(j : Int)]) ?c2 ?c3 ?c4 ?_)
            case c1 => exact cell_one_new' _ _ _ _ rfl
            case c2 => unfold maxLen; omega
            case c3 => omega
            case c4 => simp; have := hbi.size; omega
            intro v' w2 rown rgrow rnil rloc
            have hb3 : Below wo.heap.size wo w2 := (hbi.alloc hbi.size _).grown rgrow (by simp; have := hbi.size; omega) (fun q hq => (hown.lt q hq).1)
            have hr2 : w2.ownsRow wo.heap.size 2 1 v' (itemsTo p k (j + 1)).length ((itemsTo p k (j + 1)).map (Value.int .i64)) := by
              rw [Hs.out, List.length_append, List.map_append]; exact rown
            clear rown rgrow rnil rloc hown hbi hbw
            go_wp2_with fail
            go_roundw
            case rel => exact ⟨j + 1, by omega, by go_num, hr2, hb3⟩
            case measure => simp [intOf]; omega
          · have heb : (nth p j == (k : Int)) = false := by simp [he]
            have hs := itemsTo_no he
            rw [← HZ.out] at hs
            have hr2 : wr.ownsRow wo.heap.size 2 1 (.slice ai Z.length ci) (itemsTo p k (j + 1)).length ((itemsTo p k (j + 1)).map (Value.int .i64)) := by rw [hs]; exact hown
            clear hs he hown hbw
            go_wp2_with fail
            go_roundw
            case rel => exact ⟨j + 1, by omega, by go_num, hr2, hbi⟩
            case measure => simp [intOf]; omega
        · obtain rfl : j = p.length := by omega
          have hx := ownsRow_inI hown
          have hown2 : wr.ownsRow w.heap.size 47 1 (.slice ao k co) k vs := by
            have := ownsRow_below HGv.out.own hbi
            rwa [HXl.out] at this
          have Hx := Lib.hid hx
          clear hx hown
          go_wp2_with (at_builtin; refine wpList_append_own_at _ rfl _ _ 89 rfl w.heap.size 47 i0 (.slice none 0 0) 1 24 Tryz.underlying89 hi hz0 hz1 hz2 rfl (by decide) _ _ _ rfl (hown2.alloc _) ⟨wr.heap.size, 0, none⟩ 1 1 [.slice ai Z.length ci] rfl rfl ?d1 (oneCell_slice _ _ _) ?d2 ?d3 ?d4 ?_)
          case d1 => exact cell_one_new' _ _ _ _ rfl
          case d2 => unfold maxLen; omega
          case d3 => omega
          case d4 => simp; have := hbw.size; omega
          intro v' w2 rown rgrow rnil rloc
          have hG2 : OwG w2 w.heap.size 47 v' (blocksTo p (k + 1) p.length) := by
            rw [blocksTo_succ, ← HX.out, ← HZ.out]
            exact HGv.out.append (hbi.alloc hbi.size _) ((Hx.out.below ((Below.refl _ _).alloc (Nat.le_refl _) _) (Nat.le_refl _)).widen (by simp)) hbl.size (by rw [HXl.out]; exact rown) rgrow (rloc.imp id fun e => ⟨_, e, by simp⟩)
          have hb3 : Below w.heap.size w w2 := (hbw.alloc hbw.size _).grown rgrow (by simp; have := hbw.size; omega) (fun q hq => (hown2.lt q hq).1)
          clear rown rgrow rnil rloc hown2 hbi hbw
          go_wp2_with fail
          go_roundw
          case rel => exact ⟨k + 1, by omega, by go_num, hG2, hb3⟩
          case measure => simp [intOf]; omega
    · go_wp2_with fail
      go_ret
      obtain rfl : k = M := by omega
      refine ⟨_, rfl, ?_, hbl⟩
      rw [← HX.out]
      exact hG.inn hbl.size
end Go.Proofs.YtcakmchefbohoaaGreatDoor
