/- Contracts: slices.Grow of the nil slice, slices.Concat; and a reader of rows put behind each other. -/
import Derived.Test.YtcakmchefbohoaaGreatDoorProg
import Derived.Test.YtcakmchefbohoaaGreatDoorMem
import Derived.Test.YtcakmchefbohoaaGreatDoorMath
import Derived.Test.YtcakmchefbohoaaGreatDoorBasics
import Derived.Test.YtcakmchefbohoaaGreatDoorGrid
import Derived.Test.YtcakmchefbohoaaGreatDoorHelpI
import Derived.Test.YtcakmchefbohoaaGreatDoorHelpII
import Derived.WalkKit
import Derived.BigQuiet
import Derived.BigRegion
import Derived.Maps.AppendAt
import Derived.Laws.OwnMore
import Derived.Lib.AppendZeros
import Derived.Lib.AppendZerosOnto
import Derived.Lib.Hide
import Derived.Outline
set_option linter.unusedVariables false
set_option linter.unusedSimpArgs false
namespace Go.Proofs.YtcakmchefbohoaaGreatDoor
open Go.RowKit

/-- append(s, nil..) leaves s, whatever the capacity that the nil slice tells. -/
theorem wpList_append_none' {P : Program} {w : World} {ops : Array Oper} {rest : List Oper} {o : Oper} {a : Act} {Q : Exit → Act → World → Prop} (hgd : o.guard = none) (s x : Operand) (t : TypeId)
    (ho : o.op = .call { callee := .builtin .append, args := #[s, x], argTypes := #[t, t] })
    (base : Nat) (e : TypeId) (i : TypeInfo) (size : Nat) (ht : P.underlying t = some (.slice e)) (hi : P.info? e = some i)
    (v : Value) (n c : Nat) (xs : List Value) (hs : a.eval s = v) (hown : w.ownsRow base e size v n xs) (hx : a.eval x = .slice none 0 c)
    (h : wpList P ops Q rest (a.put o.dst v) w) : wpList P ops Q (o :: rest) a w := by
  refine wpList_plain hgd fun K hK => ?_
  have hrun : (Builtin.append_ #[t, t] o.type #[v, .slice none 0 c]).run P w = .ok v w := by
    rcases hown.2 with ⟨rfl, rfl⟩ | ⟨g, cap, cur, rfl, _, _, hnc, _⟩
    · simp [Builtin.append_, run_underlying ht, sizeOf, typeInfo, hi, Builtin.lenOf, Builtin.firstCells]
    · simp [Builtin.append_, run_underlying ht, sizeOf, typeInfo, hi, Builtin.lenOf, Builtin.firstCells, hnc, storeCells]
  unfold Oper.wp
  simp [execOp, ho, resolve, invoke, builtin, hs, hx, hrun, Result.andThen]
  exact hK _ _ h

/-- The k-th part, closed to simp; the i-th cell of a list. -/
def pnth (parts : List (List Value)) (k : Nat) : List Value := parts.getD k []
def vnth (l : List Value) (i : Nat) : Value := l.getD i undef
theorem pnth_mem {parts : List (List Value)} {k : Nat} (h : k < parts.length) : pnth parts k ∈ parts := by
  have : pnth parts k = parts[k] := by simp [pnth, h]
  rw [this]; exact List.getElem_mem h
theorem take_flat (parts : List (List Value)) (k : Nat) (h : k < parts.length) : (parts.take (k + 1)).flatten = (parts.take k).flatten ++ pnth parts k := by
  rw [List.take_succ_eq_append_getElem h, List.flatten_append]
  simp [pnth, h]
theorem take_flat_le (parts : List (List Value)) (k : Nat) : (parts.take k).flatten.length ≤ parts.flatten.length := by
  conv => rhs; rw [← List.take_append_drop k parts]
  rw [List.flatten_append, List.length_append]
  omega
theorem vnth_get? (l : List Value) (j : Nat) (u : Value) (h : l[j]? = some u) : vnth l j = u := by simp [vnth, h]
set_option maxRecDepth 100000 in
set_option maxHeartbeats 800000 in
theorem growI_any (n : Nat) (w : World) (hn : n ≤ 4194304) : Calls Tryz.prog 126 #[.slice none 0 0, .int .i64 n] w fun e w' => ∃ u, e = .returned u ∧ w'.ownsRow w.heap.size 2 1 u 0 [] ∧ Below w.heap.size w w' := by
  obtain ⟨i0, hi, hz0, hz1, hz2⟩ := info_parts infoI64
  by_cases h0 : n = 0
  · subst h0
    go_enter Tryz.func126, Tryz.ntmps126
    go_wp2
    go_ret
    exact ⟨_, rfl, World.ownsRow_nil _ _ _ _, Below.refl _ _⟩
  · have hp : 0 < n := by omega
    have hrz : ∀ ty, (Builtin.append_ #[47, 3] ty #[.slice none 0 0, .int .i64 (n : Int)]).run Tryz.prog w =
        .ok (.slice (some ⟨w.heap.size, 0, none⟩) n (grownCap w n 0 2)) (w.drew.alloc (.cells (#[] ++ Builtin.zeroCells ((.int .i64 0) : Value).cells n ++ Builtin.zeroCells ((.int .i64 0) : Value).cells (grownCap w n 0 2 - n)) 2)) := fun ty => by
      have h := Lib.run_append_grow_zeros (P := Tryz.prog) w 47 3 ty 2 i0 (.int .i64 0) .i64 .i64 Tryz.underlying47 Tryz.underlying3 hi hz0 none 0 0 [] (run_firstCells_none w.drew i0.size 0 0 0) n hp (by rw [hz1]; decide) (by omega) (by omega) (by rw [hz2]; omega) (growslice_fits (by omega) (by rw [hz2]; omega))
      simpa using h
    have hG := grownCap_ge w n 0 2
    have hG2 := grownCap_le_maxLen w n 0 2 (by unfold maxLen; omega)
    obtain ⟨G, hGe⟩ : ∃ G, G = grownCap w n 0 2 := ⟨_, rfl⟩
    rw [← hGe] at hrz hG hG2
    have hG3 := hG2
    unfold maxLen at hG3
    have Hrz := Lib.hid hrz
    obtain ⟨Z, hZ⟩ : ∃ Z, Z = #[] ++ Builtin.zeroCells ((.int .i64 0) : Value).cells n ++ Builtin.zeroCells ((.int .i64 0) : Value).cells (G - n) := ⟨_, rfl⟩
    rw [← hZ] at Hrz
    have hZs : Z.size = G := by
      rw [hZ, Array.size_append, Array.size_append, size_zeroCells, size_zeroCells]
      simp [Value.cells]
      omega
    have HZs := Lib.hid hZs
    clear hrz hZ hGe hZs hG2
    go_enter Tryz.func126, Tryz.ntmps126
    go_wp2_with (at_builtin; refine Lib.wpList_append_run _ rfl _ _ _ _ rfl _ _ rfl rfl _ _ (Hrz.out _) ?_)
    go_wp2
    go_ret
    refine ⟨_, rfl, ⟨rfl, Or.inr ⟨w.heap.size, G, Z, rfl, Nat.le_refl _, ?_, Nat.zero_le _, by unfold maxLen; omega, by rw [HZs.out]; omega, by simp⟩⟩, ?_⟩
    · show (w.heap.push _)[w.heap.size]? = some _
      simp
    · exact (Below.refl _ w).drew.alloc (Nat.le_refl _) _
set_option maxRecDepth 100000 in
set_option maxHeartbeats 1600000 in
theorem concatI_any (vv : Value) (ps : Nat → Value) (parts : List (List Value)) (w : World) (hn : parts.flatten.length ≤ 4194304) (hp : parts.length ≤ 4194304) (hone : ∀ l ∈ parts, ∀ u ∈ l, u.oneCell' = true)
    (hv : Rd w 1 vv parts.length ps) (hps : ∀ k, k < parts.length → Rd w 1 (ps k) (pnth parts k).length (vnth (pnth parts k))) :
    Calls Tryz.prog 85 #[vv] w fun e w' => ∃ u, e = .returned u ∧ w'.ownsRow w.heap.size 2 1 u parts.flatten.length parts.flatten ∧ Below w.heap.size w w' := by
  obtain ⟨i0, hi, hz0, hz1, hz2⟩ := info_parts infoI64
  obtain ⟨av, cv, rfl, hcv, hmv, hv⟩ := hv
  unfold maxLen at hmv
  have Hps := Lib.hid hps
  have Hone := Lib.hid hone
  obtain ⟨N, hN⟩ : ∃ N, N = parts.length := ⟨_, rfl⟩
  obtain ⟨T, hT⟩ : ∃ T, T = parts.flatten.length := ⟨_, rfl⟩
  rw [← hN] at hv hcv hp
  have hle : Hid (∀ k, (parts.take k).flatten.length ≤ T) := Lib.hid fun k => by rw [hT]; exact take_flat_le parts k
  have Hend : Hid ((parts.take N).flatten = parts.flatten) := Lib.hid (by rw [hN, List.take_length])
  rw [← hT] at hn ⊢
  rw [← hN]
  have HT := Lib.hid hT
  have HN := Lib.hid hN
  clear hps hone hT hN
  go_enter Tryz.func85, Tryz.ntmps85
  go_wp2
  go_loop [3, 11] (fun ss si => ∃ k : Nat, k ≤ N ∧ si = .int .i64 k ∧ ss = .int .i64 ((parts.take k).flatten.length : Nat)) (fun _ si => N - (intOf si).toNat)
  case atStart => exact ⟨0, Nat.zero_le _, rfl, by simp⟩
  case round =>
    obtain ⟨k, hk, rfl, rfl⟩ := hrel
    obtain ⟨S, hS⟩ : ∃ S, S = (parts.take k).flatten.length := ⟨_, rfl⟩
    have hST : S ≤ T := by rw [hS]; exact hle.out k
    rw [← hS]
    have HS := Lib.hid hS; clear hS
    by_cases hlt : k < N
    · obtain ⟨b1, o1, rfl, hb1, hc1⟩ := hv (by omega)
      obtain ⟨ak, ck, hvk, _⟩ := Hps.out k (by rw [← HN.out]; exact hlt)
      have g1 := hc1 k (by omega)
      rw [hvk] at g1
      obtain ⟨m, hm⟩ : ∃ m, m = (pnth parts k).length := ⟨_, rfl⟩
      rw [← hm] at g1
      have hSm : Hid ((parts.take (k + 1)).flatten.length = S + m) := Lib.hid (by rw [take_flat _ _ (by rw [← HN.out]; exact hlt), List.length_append, ← HS.out, ← hm])
      have hSmT : S + m ≤ T := by rw [← hSm.out]; exact hle.out _
      have hneg : ¬ ((S : Int) + (m : Int) < 0) := by omega
      clear hc1 hvk hm
      go_wp2
      go_round
      case rel => exact ⟨k + 1, by omega, by go_num, by rw [hSm.out]; go_num⟩
      case measure => simp [intOf]; omega
    · obtain rfl : N = k := by omega
      have hSe : S = T := by rw [HS.out, Hend.out, ← HT.out]
      rw [hSe]
      clear hSe HS hST
      go_wp2_with fail
      refine (growI_any T w (by omega)).mono ?_
      rintro e w1 ⟨u, rfl, hu, hb1⟩
      have Hu := Lib.hid hu
      clear hu
      go_wp2
      go_loopw [6, 27] (fun sv si wr => ∃ k : Nat, k ≤ N ∧ si = .int .i64 k ∧ Hid (wr.ownsRow w.heap.size 2 1 sv (parts.take k).flatten.length (parts.take k).flatten) ∧ Below w.heap.size w wr) (fun _ si _ => N - (intOf si).toNat)
      case atStart => exact ⟨0, Nat.zero_le _, rfl, Lib.hid (by simpa using Hu.out), hb1⟩
      case round =>
        clear Hu hb1
        obtain ⟨k, hk, rfl, HI, hbl⟩ := hrel
        obtain ⟨S, hS⟩ : ∃ S, S = (parts.take k).flatten.length := ⟨_, rfl⟩
        have hST : S ≤ T := by rw [hS]; exact hle.out k
        have hown := HI.out
        rw [← hS] at hown
        obtain ⟨a5, c5, rfl⟩ := ownsRow_slice hown
        have HS := Lib.hid hS
        clear HI hS
        by_cases hlt : k < N
        · obtain ⟨b1, o1, rfl, hb1, hc1⟩ := hv (by omega)
          have hpk := (Hps.out k (by rw [← HN.out]; exact hlt)).below hbl
          obtain ⟨ak, ck, hvk, hmc, hcm, hck⟩ := hpk
          have g1 : wr.cell? ⟨b1, o1 + k, none⟩ = some (ps k) := (hbl.cell (by exact hb1)).trans (hc1 k (by omega))
          rw [hvk] at g1
          obtain ⟨P, hP⟩ : ∃ P, P = pnth parts k := ⟨_, rfl⟩
          have hPo : Hid (∀ u ∈ P, u.oneCell' = true) := Lib.hid (by rw [hP]; exact Hone.out _ (pnth_mem (by rw [← HN.out]; exact hlt)))
          rw [← hP] at g1 hck hmc
          have hSm : Hid ((parts.take (k + 1)).flatten = (parts.take k).flatten ++ P) := Lib.hid (by rw [hP]; exact take_flat _ _ (by rw [← HN.out]; exact hlt))
          have hSmT : S + P.length ≤ T := by have h := hle.out (k + 1); rw [hSm.out, List.length_append, ← HS.out] at h; exact h
          have Hck := Lib.hid hck
          clear hc1 hvk hP hck
          cases ak with
          | none =>
            have h0 : P.length = 0 := by
              by_cases e : 0 < P.length
              · obtain ⟨_, _, e2, _⟩ := Hck.out e; cases e2
              · omega
            have hPn : P = [] := List.length_eq_zero_iff.1 h0
            have HI2 : Hid (wr.ownsRow w.heap.size 2 1 (.slice a5 S c5) (parts.take (k + 1)).flatten.length (parts.take (k + 1)).flatten) := Lib.hid (by rw [hSm.out, hPn, List.append_nil, ← HS.out]; exact hown)
            rw [h0] at g1
            have Hown := Lib.hid hown
            clear hPn h0 hown hmc
            go_wp2_with (at_builtin; refine wpList_append_none' rfl _ _ 47 rfl w.heap.size 2 i0 1 Tryz.underlying47 hi _ S ck _ rfl Hown.out rfl ?_)
            go_wp2
            go_roundw
            case rel => exact ⟨k + 1, by omega, by go_num, HI2, hbl⟩
            case measure => simp [intOf]; omega
          | some ad =>
            have hnews : Hid (∀ j u, P[j]? = some u → wr.cell? (ad.add j) = some u) := Lib.hid fun j u hj => by
              have hjl : j < P.length := (List.getElem?_eq_some_iff.1 hj).1
              obtain ⟨b2, o2, e2, hb2, hc2⟩ := Hck.out (by omega)
              cases e2
              rw [Addr.add_lit, hc2 j (by omega), vnth_get? _ _ _ hj]
            have Hown := Lib.hid hown
            clear hown Hck hmc
            go_wp2_with (at_builtin; refine wpList_append_own_at _ rfl _ _ 47 rfl w.heap.size 2 i0 (.int .i64 0) 1 8 Tryz.underlying47 hi hz0 hz1 hz2 rfl (by decide) _ S _ rfl Hown.out ad P.length ck P rfl (Nat.mul_one _).symm hnews.out hPo.out ?c2 ?c3 ?c4 ?_)
            case c2 => unfold maxLen; omega
            case c3 => omega
            case c4 => exact hbl.size
            intro v' w1 hown' hgrow hnil hloc
            have HI2 : Hid (w1.ownsRow w.heap.size 2 1 v' (parts.take (k + 1)).flatten.length (parts.take (k + 1)).flatten) := Lib.hid (by rw [hSm.out, List.length_append, ← HS.out]; exact hown')
            have hb2 : Below w.heap.size w w1 := hbl.grown hgrow hbl.size (fun j hj => (Hown.out.lt j hj).1)
            clear hown' hgrow hnil hloc
            go_wp2
            go_roundw
            case rel => exact ⟨k + 1, by omega, by go_num, HI2, hb2⟩
            case measure => simp [intOf]; omega
        · obtain rfl : N = k := by omega
          have hSe : S = T := by rw [HS.out, Hend.out, ← HT.out]
          rw [Hend.out] at hown
          have HSe := Lib.hid hSe
          have Hown := Lib.hid hown
          clear hown hSe
          go_wp2
          go_ret
          refine ⟨_, rfl, ?_, hbl⟩
          rw [← HSe.out]
          exact Hown.out
end Go.Proofs.YtcakmchefbohoaaGreatDoor
