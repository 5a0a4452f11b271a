/- Contracts: all tokens, by the reference. -/
import Derived.Test.YtcakmchefbohoaaDoorProg
import Derived.Test.YtcakmchefbohoaaDoorMem
import Derived.Test.YtcakmchefbohoaaDoorMath
import Derived.Test.YtcakmchefbohoaaDoorBasics
import Derived.Test.YtcakmchefbohoaaDoorHelpI
import Derived.Test.YtcakmchefbohoaaDoorOpenI
import Derived.Test.YtcakmchefbohoaaDoorGrid
import Derived.Test.YtcakmchefbohoaaDoorOper
import Derived.Test.YtcakmchefbohoaaDoorShelf
import Derived.Test.YtcakmchefbohoaaDoorDec
import Derived.Test.YtcakmchefbohoaaDoorNum
import Derived.Test.YtcakmchefbohoaaDoorText
import Derived.Test.YtcakmchefbohoaaDoorLab
import Derived.Test.YtcakmchefbohoaaDoorRead
import Derived.Test.YtcakmchefbohoaaDoorEnv
import Derived.Test.YtcakmchefbohoaaDoorTok
import Derived.Test.YtcakmchefbohoaaDoorTokU
import Derived.Test.YtcakmchefbohoaaDoorTokV
import Derived.Test.YtcakmchefbohoaaDoorSplit
import Derived.Laws.OwnMore
import Derived.WalkKit
import Derived.BigQuiet
import Derived.Maps.AppendAt
import Derived.Lib.Hide
import Derived.Outline
set_option linter.unusedVariables false
set_option linter.unusedSimpArgs false
namespace Go.Proofs.YtcakmchefbohoaaDoor
open Go.RowKit

theorem keep_beside {w w2 : World} {B T n q : Nat} {v1 v1' v2 : Value} {ys : List Value} (hgrow : w.grownBy w2 v1.ownBlock) (hat : v1'.ownBlock = v1.ownBlock ∨ v1'.ownBlock = some q) (hq : w.heap.size = q) (h2 : w.ownsRow B T 1 v2 n ys) (ha : ∀ g, v1.ownBlock = some g → v2.ownBlock ≠ some g) :
    w2.ownsRow B T 1 v2 n ys ∧ (∀ g, v1'.ownBlock = some g → v2.ownBlock ≠ some g) := by
  refine ⟨h2.kept hgrow ?_, ?_⟩
  · cases e : v2.ownBlock with
    | none => exact Or.inl rfl
    | some g =>
      refine Or.inr fun e2 => ha g e2.symm e
  · intro g hg e
    rcases hat with h | h
    · exact ha g (h.symm.trans hg) e
    · have := (h2.lt g e).2
      rw [h] at hg
      cases hg
      omega
def Two (w : World) (B : Nat) (v1 v2 : Value) (n : Nat) (xs : List ByteArray) (ys : List Int) : Prop :=
  w.ownsRow B 9 1 v1 n (xs.map Value.string) ∧ w.ownsRow B 2 1 v2 n (ys.map (Value.int .i64)) ∧ ∀ g, v1.ownBlock = some g → v2.ownBlock ≠ some g
theorem infoTokS : (Tryd.prog.info? 9).map (fun i => (i.zero, i.size, i.bytes)) = some (some (.string ByteArray.empty), 1, 16) := by kernel_rfl
theorem row_in {w : World} {B T n : Nat} {v : Value} {xs : List Value} {cs : Nat → Value} (h : w.ownsRow B T 1 v n xs) (hcs : ∀ i, i < n * 1 → xs[i]? = some (cs i)) (hB : B ≤ w.heap.size) :
    ∃ l m, B ≤ l ∧ l ≤ m ∧ m ≤ w.heap.size ∧ (l = m ∨ (v.ownBlock = some l ∧ m = l + 1)) ∧ In w l m 1 v n cs := by
  obtain ⟨a, cap, rfl, h1, h2, h3⟩ := ownsRow_ow h cs hcs
  by_cases hn : 0 < n
  · obtain ⟨b, o, rfl, q1, q2, q3⟩ := h3 hn
    exact ⟨b, b + 1, q1, by omega, by omega, Or.inr ⟨rfl, rfl⟩, _, cap, rfl, h1, h2, fun _ => ⟨b, o, rfl, Nat.le_refl _, by omega, q2, q3⟩⟩
  · exact ⟨B, B, Nat.le_refl _, Nat.le_refl _, hB, Or.inl rfl, _, cap, rfl, h1, h2, fun h => absurd h hn⟩
/-- What TokensOf gives: two lists that do not lie in one another, and a code. -/
def TwoIn (w : World) (B : Nat) (u v : Value) (xs : List ByteArray) (ys : List Int) : Prop :=
  ∃ l m l' m', B ≤ l ∧ l ≤ m ∧ m ≤ w.heap.size ∧ B ≤ l' ∧ l' ≤ m' ∧ m' ≤ w.heap.size ∧ (m ≤ l' ∨ m' ≤ l) ∧ InS w l m u xs ∧ InI w l' m' v ys
theorem TwoIn_nil {w : World} {B : Nat} (h : B ≤ w.heap.size) : TwoIn w B (.slice none 0 0) (.slice none 0 0) [] [] :=
  ⟨B, B, B, B, Nat.le_refl _, Nat.le_refl _, h, Nat.le_refl _, Nat.le_refl _, h, Or.inl (Nat.le_refl _), ⟨none, 0, rfl, Nat.le_refl _, Nat.zero_le _, fun h => absurd h (by simp)⟩, ⟨none, 0, rfl, Nat.le_refl _, Nat.zero_le _, fun h => absurd h (by simp)⟩⟩
theorem Two.twoIn {w : World} {B n : Nat} {u v : Value} {xs : List ByteArray} {ys : List Int} (h : Two w B u v n xs ys) (hB : B ≤ w.heap.size) : TwoIn w B u v xs ys := by
  obtain ⟨h1, h2, h3⟩ := h
  have e1 : n = xs.length := by have := h1.1; simp at this; omega
  have e2 : n = ys.length := by have := h2.1; simp at this; omega
  obtain ⟨l, m, a1, a2, a3, a4, a5⟩ := row_in (cs := sc xs) h1 (fun i hi => by rw [List.getElem?_map, snth_get? xs i (by omega)]; rfl) hB
  obtain ⟨l', m', b1, b2, b3, b4, b5⟩ := row_in (cs := ic ys) h2 (fun i hi => by rw [List.getElem?_map, nth_get? ys i (by omega)]; rfl) hB
  refine ⟨l, m, l', m', a1, a2, a3, b1, b2, b3, ?_, by rw [e1] at a5; exact a5, by rw [e2] at b5; exact b5⟩
  rcases a4 with rfl | ⟨a4, rfl⟩
  · rcases b4 with rfl | ⟨b4, rfl⟩ <;> omega
  · rcases b4 with rfl | ⟨b4, rfl⟩
    · omega
    · have : l ≠ l' := fun e => h3 l a4 (by rw [b4, e])
      omega
theorem two_made (w : World) (B q : Nat) (hB : B ≤ w.heap.size) (hq : q = w.heap.size + 1) : Two ((w.alloc (.cells #[] 9)).alloc (.cells #[] 2)) B (.slice (some ⟨w.heap.size, 0, none⟩) 0 0) (.slice (some ⟨q, 0, none⟩) 0 0) 0 [] [] := by
  have hz : (w.alloc (.cells #[] 9)).heap.size = w.heap.size + 1 := by simp
  refine ⟨(nil_owned B _ hB).alloc _, ?_, fun g h e => ?_⟩
  · rw [hq, ← hz]
    exact nil_owned B _ (by rw [hz]; omega)
  · cases h
    have e2 : q = w.heap.size := by simpa [Value.ownBlock] using e
    omega
theorem Two.below {w w' : World} {B n : Nat} {u v : Value} {xs : List ByteArray} {ys : List Int} (h : Two w B u v n xs ys) (hb : Below w.heap.size w w') : Two w' B u v n xs ys :=
  ⟨ownsRow_below h.1 hb, ownsRow_below h.2.1 hb, h.2.2⟩
set_option maxRecDepth 100000 in
set_option maxHeartbeats 3200000 in
theorem spec_TokensOf_any (s : ByteArray) (w : World) (hs : s.size ≤ 1048576) :
    Calls Tryd.prog 4 #[.string s] w fun e w' => ∃ u v, e = .returned (.tuple #[u, v, .int .i64 (tokC s)]) ∧ TwoIn w' w.heap.size u v (tokT s) (tokO s) ∧ Below w.heap.size w w' := by
  obtain ⟨i0, hi, hz0, hz1, hz2⟩ := info_parts infoTokS
  obtain ⟨j0, hj, hy0, hy1, hy2⟩ := info_parts infoI64
  by_cases h4 : 400 < s.size
  · have h4i : (400 : Int) < s.size := by omega
    have HC : Hid (tokC s = 2 ∧ tokT s = [] ∧ tokO s = []) := Lib.hid (by
      have hn : ¬ s.size ≤ 400 := by omega
      have hp : tokP s = [] := by unfold tokP; rw [if_neg hn]
      refine ⟨by unfold tokC; rw [if_neg hn], ?_, ?_⟩
      · unfold tokT; rw [hp]; rfl
      · unfold tokO; rw [hp]; rfl)
    rw [HC.out.1, HC.out.2.1, HC.out.2.2]
    go_enter Tryd.func4, Tryd.ntmps4
    go_wp2_with fail
    go_ret3
    exact ⟨_, _, rfl, TwoIn_nil (Nat.le_refl _), Below.refl _ _⟩
  have h4i : ¬ (400 : Int) < s.size := by omega
  have h4n : s.size ≤ 400 := by omega
  obtain ⟨k0, hk0⟩ : ∃ k0, k0 = runE isBl s 0 := ⟨_, rfl⟩
  have hk0s : k0 ≤ s.size := by rw [hk0]; exact (runE_bd isBl s 0).2 (Nat.zero_le _)
  have HK0 := Lib.hid hk0
  have HQ : Hid (scanE s 0 = (scanE s k0).map ([] ++ ·)) := Lib.hid (by rw [hk0, ← scan_skp]; cases scanE s 0 <;> rfl)
  have HB : Hid (k0 < s.size → bt s k0 ≠ 32) := Lib.hid (by rw [hk0]; exact skp_not)
  have HC : Hid (∀ l, scanE s 0 = some l → tokC s = 0 ∧ tokT s = txtOf s l ∧ tokO s = offOf l) := Lib.hid fun l h => by
    refine ⟨?_, ?_, ?_⟩
    · unfold tokC; rw [if_pos h4n, h]; rfl
    · unfold tokT tokP; rw [if_pos h4n, h]; rfl
    · unfold tokO tokP; rw [if_pos h4n, h]; rfl
  have HF : Hid (scanE s 0 = none → tokC s = 8 ∧ tokT s = [] ∧ tokO s = []) := Lib.hid fun h => by
    refine ⟨?_, ?_, ?_⟩
    · unfold tokC; rw [if_pos h4n, h]; rfl
    · unfold tokT tokP; rw [if_pos h4n, h]; rfl
    · unfold tokO tokP; rw [if_pos h4n, h]; rfl
  clear hk0
  go_enter Tryd.func4, Tryd.ntmps4
  go_wp2_with fail
  refine (l04Skip_any s 0 _ hs (by omega)).mono ?_
  rw [← HK0.out]
  rintro e w' ⟨rfl, rfl⟩
  go_wp2_with fail
  go_loopw [5, 6, 7] (fun so sf si wr => ∃ (k D : Nat) (l : List (Nat × Nat)), si = .int .i64 k ∧ k ≤ s.size ∧ D ≤ k ∧ Hid (scanE s 0 = (scanE s k).map (l ++ ·)) ∧ Hid (k < s.size → bt s k ≠ 32) ∧ Hid (Two wr w.heap.size so sf D (txtOf s l) (offOf l)) ∧ Below w.heap.size w wr) (fun _ _ si _ => s.size - (intOf si).toNat)
  case atStart =>
    exact ⟨k0, 0, [], rfl, hk0s, Nat.zero_le _, HQ, HB, Lib.hid (two_made _ _ _ (Nat.le_refl _) (by simp)), ((Below.refl _ _).alloc (Nat.le_refl _) _).alloc (by simp) _⟩
  case round =>
    obtain ⟨k, D, l, rfl, hk, hD, HS, HN, HT, hbl⟩ := hrel
    obtain ⟨a5, c5, rfl⟩ := owned_slice HT.out.1
    obtain ⟨a6, c6, rfl⟩ := owned_slice HT.out.2.1
    by_cases hlt : k < s.size
    · cases ht : isTokB (s.extract k (endI s k)) with
      | false =>
        have HE : Hid (tokE s k = k) := Lib.hid (by rw [tok_same hlt]; unfold tk; rw [if_neg (by rw [ht]; decide)]; rfl)
        have HG := Lib.hid (HF.out (by rw [HS.out, scan_none hlt (HN.out hlt) ht]; rfl))
        clear ht
        go_wp2_with fail
        refine (l04Token_any s k _ hs hlt).mono ?_
        rw [HE.out]
        rintro e w1 ⟨rfl, hb1⟩
        go_wp2_with fail
        go_ret3
        exact ⟨_, _, by rw [HG.out.1]; rfl, by rw [HG.out.2.1, HG.out.2.2]; exact TwoIn_nil (by have := hb1.size; have := hbl.size; omega), below_trans' hbl hb1⟩
      | true =>
        have hbd := endI_bd hlt
        have HE : Hid (tokE s k = endI s k) := Lib.hid (by rw [tok_same hlt]; unfold tk; rw [if_pos ht]; rfl)
        have HS2 : Hid (scanE s 0 = (scanE s (runE isBl s (endI s k))).map ((l ++ [(k, endI s k)]) ++ ·)) := Lib.hid (by
          rw [HS.out, scan_tok hlt (HN.out hlt) ht, ← scan_skp]
          cases scanE s (endI s k) <;> simp)
        obtain ⟨E, hE⟩ : ∃ E, E = endI s k := ⟨_, rfl⟩
        rw [← hE] at hbd HE HS2
        obtain ⟨K, hK⟩ : ∃ K, K = runE isBl s E := ⟨_, rfl⟩
        have hKb := runE_bd isBl s E
        have HN2 : Hid (K < s.size → bt s K ≠ 32) := Lib.hid (by rw [hK]; exact skp_not)
        rw [← hK] at HS2 hKb
        have HK := Lib.hid hK
        obtain ⟨hbd1, hbd2⟩ := hbd
        have hKs := hKb.2 hbd2
        have hKE := hKb.1
        have hne : ((E : Int) == (k : Int)) = false := by simp; omega
        have hle : k ≤ E := by omega
        clear hE hK hKb ht
        go_wp2_with fail
        refine (l04Token_any s k _ hs hlt).mono ?_
        rw [HE.out]
        rintro e w1 ⟨rfl, hb1⟩
        have hbl1 := below_trans' hbl hb1
        have HT1 : Hid (Two w1 w.heap.size _ _ D (txtOf s l) (offOf l)) := Lib.hid (HT.out.below hb1)
        have hz := hbl1.size
        clear HT
        go_wp2_with (at_builtin; refine wpList_append_own_at _ rfl _ _ 22 rfl w.heap.size 9 i0 (.string ByteArray.empty) 1 16 Tryd.underlying22 hi hz0 hz1 hz2 rfl (by decide) _ D _ rfl (HT1.out.1.alloc _) ⟨w1.heap.size, 0, none⟩ 1 1 [.string (s.extract k E)] rfl rfl (new_cell _ _ _ _ rfl) (by simp [Value.oneCell']) ?c2 ?c3 ?c4 ?_)
        case c2 => unfold maxLen; omega
        case c3 => omega
        case c4 => first | omega | (simp; omega)
        intro v1 w2 hown1 hgrow1 hnil1 hloc1
        have hk2 := keep_beside hgrow1 hloc1 (by simp) (HT1.out.2.1.alloc _) HT1.out.2.2
        have hbl2 : Below w.heap.size w w2 := (hbl1.alloc hbl1.size _).grown hgrow1 (by first | omega | (simp; omega)) (fun j hj => (HT1.out.1.lt j hj).1)
        have HO1 := Lib.hid hown1
        have HK2 := Lib.hid hk2
        have hz2' := hbl2.size
        clear hown1 hgrow1 hnil1 hloc1 hk2 HT1
        go_wp2_with (at_builtin; refine wpList_append_own_at _ rfl _ _ 23 rfl w.heap.size 2 j0 (.int .i64 0) 1 8 Tryd.underlying23 hj hy0 hy1 hy2 rfl (by decide) _ D _ rfl (HK2.out.1.alloc _) ⟨w2.heap.size, 0, none⟩ 1 1 [.int .i64 k] rfl rfl (new_cell _ _ _ _ rfl) (by simp [Value.oneCell']) ?c2 ?c3 ?c4 ?_)
        case c2 => unfold maxLen; omega
        case c3 => omega
        case c4 => first | omega | (simp; omega)
        intro v2 w3 hown2 hgrow2 hnil2 hloc2
        have hk3 := keep_beside hgrow2 hloc2 (by simp) (HO1.out.alloc _) (fun g hg e => HK2.out.2 g e hg)
        have hbl3 : Below w.heap.size w w3 := (hbl2.alloc hbl2.size _).grown hgrow2 (by first | omega | (simp; omega)) (fun j hj => (HK2.out.1.lt j hj).1)
        have HT3 : Hid (Two w3 w.heap.size v1 v2 (D + 1) (txtOf s (l ++ [(k, E)])) (offOf (l ++ [(k, E)]))) := Lib.hid (by
          refine ⟨?_, ?_, fun g hg e => hk3.2 g e hg⟩
          · unfold txtOf at hk3 ⊢
            rw [List.map_append, List.map_append]
            exact hk3.1
          · unfold offOf at hown2 ⊢
            rw [List.map_append, List.map_append]
            exact hown2)
        clear hown2 hgrow2 hnil2 hloc2 hk3 HO1 HK2
        go_wp2_with fail
        refine (l04Skip_any s E _ hs (by omega)).mono ?_
        rw [← HK.out]
        rintro e w' ⟨rfl, rfl⟩
        go_wp2_with fail
        go_roundw
        case rel => exact ⟨K, D + 1, _, by go_num, hKs, by omega, HS2, HN2, HT3, hbl3⟩
        case measure => simp [intOf]; omega
    · have HG := Lib.hid (HC.out l (by rw [HS.out, scan_end hlt]; simp))
      go_wp2_with fail
      go_ret3
      exact ⟨_, _, by rw [HG.out.1]; rfl, by rw [HG.out.2.1, HG.out.2.2]; exact HT.out.twoIn hbl.size, hbl⟩
end Go.Proofs.YtcakmchefbohoaaDoor
