/- Contracts: TokensOf of the program. -/
import Derived.Test.YtcakmchefbohoaaDoorProg
import Derived.Test.YtcakmchefbohoaaDoorMem
import Derived.Test.YtcakmchefbohoaaDoorMath
import Derived.Test.YtcakmchefbohoaaDoorBasics
import Derived.Test.YtcakmchefbohoaaDoorHelpI
import Derived.Test.YtcakmchefbohoaaDoorOpenI
import Derived.Test.YtcakmchefbohoaaDoorGrid
import Derived.Test.YtcakmchefbohoaaDoorOper
import Derived.Test.YtcakmchefbohoaaDoorShelf
import Derived.Test.YtcakmchefbohoaaDoorDec
import Derived.Test.YtcakmchefbohoaaDoorNum
import Derived.Test.YtcakmchefbohoaaDoorText
import Derived.Test.YtcakmchefbohoaaDoorLab
import Derived.Test.YtcakmchefbohoaaDoorRead
import Derived.Test.YtcakmchefbohoaaDoorEnv
import Derived.Test.YtcakmchefbohoaaDoorTok
import Derived.Test.YtcakmchefbohoaaDoorTokU
import Derived.Test.YtcakmchefbohoaaDoorTokV
import Derived.Test.YtcakmchefbohoaaDoorTokS
import Derived.Test.YtcakmchefbohoaaDoorTokI
import Derived.Laws.OwnMore
import Derived.WalkKit
import Derived.BigQuiet
import Derived.Maps.AppendAt
import Derived.Lib.Hide
import Derived.Outline
set_option linter.unusedVariables false
set_option linter.unusedSimpArgs false
namespace Go.Proofs.YtcakmchefbohoaaDoor
open Go.RowKit

theorem two_nil (w : World) (B : Nat) : Two w B (.slice none 0 0) (.slice none 0 0) 0 [] [] :=
  ⟨World.ownsRow_nil _ _ _ _, World.ownsRow_nil _ _ _ _, fun g h => by cases h⟩
theorem TwoIn.mono {w : World} {B B' : Nat} {u v : Value} {xs : List ByteArray} {ys : List Int} (h : TwoIn w B u v xs ys) (hB : B' ≤ B) : TwoIn w B' u v xs ys := by
  obtain ⟨l, m, l', m', a1, a2, a3, a4, a5, a6, a7⟩ := h
  exact ⟨l, m, l', m', by omega, a2, a3, by omega, a5, a6, a7⟩
theorem txt_next {s : ByteArray} {l : List (Nat × Nat)} {k : Nat} (h : k < l.length) : txtOf s (l.take (k + 1)) = txtOf s (l.take k) ++ [s.extract (pnth l k).1 (pnth l k).2] := by
  unfold txtOf pnth
  rw [List.take_succ_eq_append_getElem h, List.map_append, List.getD_eq_getElem?_getD, List.getElem?_eq_getElem h]; rfl
theorem off_next {l : List (Nat × Nat)} {k : Nat} (h : k < l.length) : offOf (l.take (k + 1)) = offOf (l.take k) ++ [((pnth l k).1 : Int)] := by
  unfold offOf pnth
  rw [List.take_succ_eq_append_getElem h, List.map_append, List.getD_eq_getElem?_getD, List.getElem?_eq_getElem h]; rfl
theorem tkc_even (s : ByteArray) (l : List (Nat × Nat)) (k : Nat) : tkc s l (k * 2) = .string (s.extract (pnth l k).1 (pnth l k).2) := by
  unfold tkc
  rw [if_pos (by omega), show k * 2 / 2 = k by omega]
theorem tkc_odd (s : ByteArray) (l : List (Nat × Nat)) (k : Nat) : tkc s l (k * 2 + 1) = .int .i64 ((pnth l k).1 : Nat) := by
  unfold tkc
  rw [if_neg (by omega), show (k * 2 + 1) / 2 = k by omega]
set_option maxRecDepth 100000 in
set_option maxHeartbeats 6400000 in
theorem TokensOf_any (s : ByteArray) (w : World) (hs : s.size ≤ 1048576) (hT : Env3 w) (hX : TextTab w) :
    Calls Tryd.prog 5 #[.string s] w fun e w' => ∃ u v, e = .returned (.tuple #[u, v, .int .i64 (tokC s)]) ∧ TwoIn w' w.heap.size u v (tokT s) (tokO s) ∧ Below w.heap.size w w' := by
  obtain ⟨i0, hi, hz0, hz1, hz2⟩ := info_parts infoTokS
  obtain ⟨j0, hj, hy0, hy1, hy2⟩ := info_parts infoI64
  have HT := Lib.hid hT
  have HX := Lib.hid hX
  clear hT hX
  by_cases h4 : 400 < s.size
  · have h4i : (400 : Int) < s.size := by omega
    have HC : Hid (tokC s = 2 ∧ tokT s = [] ∧ tokO s = []) := Lib.hid (by
      have hn : ¬ s.size ≤ 400 := by omega
      have hp : tokP s = [] := by unfold tokP; rw [if_neg hn]
      refine ⟨by unfold tokC; rw [if_neg hn], ?_, ?_⟩
      · unfold tokT; rw [hp]; rfl
      · unfold tokO; rw [hp]; rfl)
    rw [HC.out.1, HC.out.2.1, HC.out.2.2]
    go_enter Tryd.func5, Tryd.ntmps5
    go_wp2_with fail
    go_ret3
    exact ⟨_, _, rfl, TwoIn_nil (Nat.le_refl _), Below.refl _ _⟩
  have h4i : ¬ (400 : Int) < s.size := by omega
  have h4n : s.size ≤ 400 := by omega
  have HC : Hid (∀ l, scanE s 0 = some l → tokC s = 0 ∧ tokT s = txtOf s l ∧ tokO s = offOf l) := Lib.hid fun l h => by
    refine ⟨?_, ?_, ?_⟩
    · unfold tokC; rw [if_pos h4n, h]; rfl
    · unfold tokT tokP; rw [if_pos h4n, h]; rfl
    · unfold tokO tokP; rw [if_pos h4n, h]; rfl
  have HF : Hid (scanE s 0 = none → tokC s = 8 ∧ tokT s = [] ∧ tokO s = []) := Lib.hid fun h => by
    refine ⟨?_, ?_, ?_⟩
    · unfold tokC; rw [if_pos h4n, h]; rfl
    · unfold tokT tokP; rw [if_pos h4n, h]; rfl
    · unfold tokO tokP; rw [if_pos h4n, h]; rfl
  go_enter Tryd.func5, Tryd.ntmps5
  go_wp2_with fail
  refine (tokens_any s _ hs HT.out HX.out).mono ?_
  rintro e w1 ⟨u, bad, l, rfl, hor, hb1⟩
  rcases hor with ⟨hsc, rfl, hrow⟩ | ⟨hsc, hbad⟩
  case inr =>
    have HG := Lib.hid (HF.out hsc)
    have hbn : ¬ bad < 0 := by omega
    clear hsc
    go_wp2_with fail
    go_ret3
    exact ⟨_, _, by rw [HG.out.1]; rfl, by rw [HG.out.2.1, HG.out.2.2]; exact TwoIn_nil hb1.size, hb1⟩
  have HG := Lib.hid (HC.out l hsc)
  have hln : l.length ≤ 400 := by have := scan_len s _ 0 l (Nat.le_refl _) hsc; omega
  obtain ⟨a, cap, rfl, hcap, hcm, hv⟩ := ownsRow_ow hrow (tkc s l) (fun i hi => tkC_get s l hi)
  unfold maxLen at hcm
  obtain ⟨n, hn⟩ : ∃ n, n = l.length := ⟨_, rfl⟩
  rw [← hn] at hcap hv hln ⊢
  have Hn := Lib.hid hn
  have hz1' := hb1.size
  clear hn hsc hrow
  go_wp2_with fail
  go_loopw [7, 8, 23] (fun so sf si wr => ∃ k : Nat, k ≤ n ∧ si = .int .i64 k ∧ Hid (Two wr w1.heap.size so sf k (txtOf s (l.take k)) (offOf (l.take k))) ∧ Below w1.heap.size w1 wr) (fun _ _ si _ => n - (intOf si).toNat)
  case atStart => exact ⟨0, Nat.zero_le _, rfl, Lib.hid (two_nil _ _), Below.refl _ _⟩
  case round =>
    obtain ⟨k, hk, rfl, HW, hbl⟩ := hrel
    obtain ⟨a7, c7, rfl⟩ := owned_slice HW.out.1
    obtain ⟨a8, c8, rfl⟩ := owned_slice HW.out.2.1
    have hzr := hbl.size
    by_cases hlt : k < n
    · obtain ⟨b, o, rfl, hb0, hb, hc⟩ := hv (by omega)
      have g0 : wr.cell? ⟨b, o + k * 2, none⟩ = some (.string (s.extract (pnth l k).1 (pnth l k).2)) := by
        rw [hbl.cell (p := ⟨b, o + k * 2, none⟩) (by exact hb), (hc (k * 2) (by omega)).1, tkc_even]
      have g1 : wr.cell? ⟨b, o + k * 2 + 1, none⟩ = some (.int .i64 ((pnth l k).1 : Nat)) := by
        have := (hc (k * 2 + 1) (by omega)).1
        rw [tkc_odd] at this
        rw [hbl.cell (p := ⟨b, o + k * 2 + 1, none⟩) (by exact hb)]
        exact this
      have hx1 := txt_next (s := s) (k := k) (by rw [← Hn.out]; exact hlt)
      have hx2 := off_next (l := l) (k := k) (by rw [← Hn.out]; exact hlt)
      obtain ⟨X, hX⟩ : ∃ X, X = s.extract (pnth l k).1 (pnth l k).2 := ⟨_, rfl⟩
      obtain ⟨p, hp⟩ : ∃ p, p = (pnth l k).1 := ⟨_, rfl⟩
      rw [← hX] at g0 hx1
      rw [← hp] at g1 hx2
      have HX1 := Lib.hid hx1
      have HX2 := Lib.hid hx2
      have hbw : b < wr.heap.size := by omega
      clear hX hp hx1 hx2 hc
      go_wp2_with (at_builtin; refine wpList_append_own_at _ rfl _ _ 22 rfl w1.heap.size 9 i0 (.string ByteArray.empty) 1 16 Tryd.underlying22 hi hz0 hz1 hz2 rfl (by decide) _ k ((txtOf s (l.take k)).map Value.string) rfl ?own ⟨_, 0, none⟩ 1 1 [.string X] rfl rfl ?new (by simp [Value.oneCell']) ?c2 ?c3 ?c4 ?_)
      case own => exact (HW.out.1.alloc _).alloc _
      case new => exact new_cell _ _ _ _ (by simp)
      case c2 => unfold maxLen; omega
      case c3 => omega
      case c4 => first | omega | (simp; omega)
      intro v1 w2 hown1 hgrow1 hnil1 hloc1
      have hblk : w2.heap[wr.heap.size]? = some (Obj.cells #[.string X, .int .i64 (p : Int)] 36) := by
        refine (hgrow1.block wr.heap.size (by simp; omega) fun e => ?_).trans ((heap_alloc_old _ _ (by simp)).trans (heap_alloc_new wr _))
        have := (HW.out.1.lt _ e.symm).2
        omega
      have g2 : w2.cell? ⟨wr.heap.size, 1, none⟩ = some (.int .i64 (p : Int)) := (cell_of_row _ _ _ _ _ _ hblk).trans rfl
      have hk2 := keep_beside hgrow1 hloc1 (by simp) ((HW.out.2.1.alloc _).alloc _) HW.out.2.2
      have hbl2 : Below w1.heap.size w1 w2 := ((hbl.alloc hbl.size _).alloc (by simp; omega) _).grown hgrow1 (by simp; omega) (fun j hj => (HW.out.1.lt j hj).1)
      have HO1 := Lib.hid hown1
      have HK2 := Lib.hid hk2
      have hz2' := hbl2.size
      clear hown1 hgrow1 hnil1 hloc1 hk2 hblk g0 g1 hv HW
      go_wp2_with (at_builtin; refine wpList_append_own_at _ rfl _ _ 23 rfl w1.heap.size 2 j0 (.int .i64 0) 1 8 Tryd.underlying23 hj hy0 hy1 hy2 rfl (by decide) _ k ((offOf (l.take k)).map (Value.int .i64)) rfl (HK2.out.1.alloc _) ⟨w2.heap.size, 0, none⟩ 1 1 [.int .i64 (p : Int)] rfl rfl (new_cell _ _ _ _ rfl) (by simp [Value.oneCell']) ?c2 ?c3 ?c4 ?_)
      case c2 => unfold maxLen; omega
      case c3 => omega
      case c4 => first | omega | (simp; omega)
      intro v2 w3 hown2 hgrow2 hnil2 hloc2
      have hk3 := keep_beside hgrow2 hloc2 (by simp) (HO1.out.alloc _) (fun g hg e => HK2.out.2 g e hg)
      have hbl3 : Below w1.heap.size w1 w3 := (hbl2.alloc hbl2.size _).grown hgrow2 (by first | omega | (simp; omega)) (fun j hj => (HK2.out.1.lt j hj).1)
      have HT3 : Hid (Two w3 w1.heap.size v1 v2 (k + 1) (txtOf s (l.take (k + 1))) (offOf (l.take (k + 1)))) := Lib.hid (by
        rw [HX1.out, HX2.out]
        refine ⟨?_, ?_, fun g hg e => hk3.2 g e hg⟩
        · rw [List.map_append]
          exact hk3.1
        · rw [List.map_append]
          exact hown2)
      clear hown2 hgrow2 hnil2 hloc2 hk3 HO1 HK2
      go_wp2_with fail
      go_roundw
      case rel => exact ⟨k + 1, by omega, by go_num, HT3, hbl3⟩
      case measure => simp [intOf]; omega
    · have hkn : k = n := by omega
      have HL : Hid (l.take k = l) := Lib.hid (by rw [hkn, Hn.out]; exact List.take_length)
      go_wp2_with fail
      go_ret3
      exact ⟨_, _, by rw [HG.out.1]; rfl, by
        rw [HG.out.2.1, HG.out.2.2]
        have h := HW.out.twoIn hbl.size
        rw [HL.out] at h
        exact h.mono hz1', below_trans' hb1 hbl⟩
end Go.Proofs.YtcakmchefbohoaaDoor
