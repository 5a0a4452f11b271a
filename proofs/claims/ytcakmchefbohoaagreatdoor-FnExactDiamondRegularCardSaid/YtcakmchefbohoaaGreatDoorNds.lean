/- Rows of nodes: appended to, put behind each other. -/
import Derived.Test.YtcakmchefbohoaaGreatDoorProg
import Derived.Test.YtcakmchefbohoaaGreatDoorMem
import Derived.Test.YtcakmchefbohoaaGreatDoorMath
import Derived.Test.YtcakmchefbohoaaGreatDoorBasics
import Derived.Test.YtcakmchefbohoaaGreatDoorOpenI
import Derived.Test.YtcakmchefbohoaaGreatDoorHelpI
import Derived.Test.YtcakmchefbohoaaGreatDoorGrid
import Derived.Test.YtcakmchefbohoaaGreatDoorLab
import Derived.Test.YtcakmchefbohoaaGreatDoorDec
import Derived.Test.YtcakmchefbohoaaGreatDoorNode
import Derived.Test.YtcakmchefbohoaaGreatDoorNodeW
import Derived.Test.YtcakmchefbohoaaGreatDoorConc
import Derived.WalkKit
import Derived.BigQuiet
import Derived.Maps.AppendAt
import Derived.Laws.OwnMore
import Derived.Lib.AppendZeros
import Derived.Lib.AppendZerosOnto
import Derived.Lib.Hide
import Derived.Outline
set_option linter.unusedVariables false
set_option linter.unusedSimpArgs false
namespace Go.Proofs.YtcakmchefbohoaaGreatDoor
open Go.RowKit

/-- The cells of a list of nodes, in a row. -/
def ndCells (f : List Nd) : List Value := (List.range (f.length * 4)).map (ndc f)
theorem ndCells_len (f : List Nd) : (ndCells f).length = f.length * 4 := by simp [ndCells]
theorem ndCells_get (f : List Nd) {i : Nat} (h : i < f.length * 4) : (ndCells f)[i]? = some (ndc f i) := by
  unfold ndCells
  rw [List.getElem?_map, List.getElem?_range h]; rfl
theorem ndnth_left (f g : List Nd) {i : Nat} (h : i < f.length) : ndnth (f ++ g) i = ndnth f i := by
  unfold ndnth
  rw [List.getD_eq_getElem?_getD, List.getD_eq_getElem?_getD, List.getElem?_append_left h]
theorem ndnth_right (f g : List Nd) (i : Nat) : ndnth (f ++ g) (f.length + i) = ndnth g i := by
  unfold ndnth
  rw [List.getD_eq_getElem?_getD, List.getD_eq_getElem?_getD, List.getElem?_append_right (by omega), Nat.add_sub_cancel_left]
theorem ndCells_append (f g : List Nd) : ndCells f ++ ndCells g = ndCells (f ++ g) := by
  refine List.ext_getElem? fun i => ?_
  by_cases h1 : i < f.length * 4
  · rw [List.getElem?_append_left (by rw [ndCells_len]; exact h1), ndCells_get f h1, ndCells_get _ (by rw [List.length_append]; omega)]
    unfold ndc
    rw [ndnth_left f g (by omega)]
  · rw [List.getElem?_append_right (by rw [ndCells_len]; omega), ndCells_len]
    by_cases h2 : i < (f ++ g).length * 4
    · have hl : (f ++ g).length = f.length + g.length := List.length_append
      rw [ndCells_get _ h2, ndCells_get g (by omega)]
      unfold ndc
      rw [show i / 4 = f.length + (i - f.length * 4) / 4 by omega, ndnth_right, show (i - f.length * 4) % 4 = i % 4 by omega]
    · have hl : (f ++ g).length = f.length + g.length := List.length_append
      rw [List.getElem?_eq_none (by rw [ndCells_len]; omega), List.getElem?_eq_none (by rw [ndCells_len]; omega)]
theorem ndCells_one (f : List Nd) : ∀ u ∈ ndCells f, u.oneCell' = true := by
  intro u hu
  obtain ⟨i, _, rfl⟩ := List.mem_map.1 hu
  unfold ndc ndv
  split
  · rfl
  · split
    · rfl
    · split <;> rfl
theorem ndCells_single (x : Nd) : ndCells [x] = [.int .i64 x.kind, .int .i64 x.var, .string x.lab, .bool x.neg] := by
  simp [ndCells, List.range, List.range.loop, ndc, ndv, ndnth]
/-- A row of nodes of the call's own reads as them. -/
theorem own_nd {w : World} {base n : Nat} {v : Value} {f : List Nd} (h : w.ownsRow base 65 4 v n (ndCells f)) : OwNd w base v f := by
  have hn : n = f.length := by have := h.1; rw [ndCells_len] at this; omega
  subst hn
  exact ownsRow_ow h _ fun i hi => ndCells_get f hi
theorem own_nd_nil {w : World} (B : Nat) (hB : B ≤ w.heap.size) : (w.alloc (.cells #[] 65)).ownsRow B 65 4 (.slice (some ⟨w.heap.size, 0, none⟩) 0 0) ([] : List Nd).length (ndCells []) :=
  ⟨rfl, Or.inr ⟨w.heap.size, 0, #[], rfl, hB, by show (w.heap.push _)[w.heap.size]? = some _; simp, Nat.le_refl _, Nat.zero_le _, rfl, rfl⟩⟩
/-- append(f, g...) on a row of the call's own. -/
theorem wpList_append_nd {w : World} {ops : Array Oper} {rest : List Oper} {o : Oper} {a : Act} {Q : Exit → Act → World → Prop} (hgd : o.guard = none) (s x : Operand)
    (ho : o.op = .call { callee := .builtin .append, args := #[s, x], argTypes := #[26, 26] })
    (base : Nat) (v vx : Value) (n : Nat) (f g : List Nd) (hnl : n = f.length) (hs : a.eval s = v) (hx : a.eval x = vx)
    (hown : w.ownsRow base 65 4 v n (ndCells f)) (hrd : RdNd w vx g) (hlen : f.length + g.length ≤ 2097152) (hbase : base ≤ w.heap.size)
    (B : Nat) (w0 : World) (hb : Below B w0 w) (hB : B ≤ base)
    (h : ∀ v' w', Hid (w'.ownsRow base 65 4 v' (n + g.length) (ndCells (f ++ g))) → Below B w0 w' → wpList Tryz.prog ops Q rest (a.put o.dst v') w') : wpList Tryz.prog ops Q (o :: rest) a w := by
  obtain ⟨i0, hi, hz0, hz1, hz2⟩ := info_parts infoNd
  obtain ⟨ax, cx, rfl, hcx, hmx, hrd⟩ := hrd
  subst hnl
  cases ax with
  | none =>
    have hg0 : g = [] := by
      cases g with
      | nil => rfl
      | cons y l =>
        obtain ⟨b, o, e, _⟩ := hrd (by simp)
        cases e
    subst hg0
    refine wpList_append_none' hgd s x 26 ho base 65 i0 4 Tryz.underlying26 hi v f.length cx (ndCells f) hs hown hx ?_
    exact h v w (Lib.hid (by rw [List.append_nil]; exact hown)) hb
  | some ad =>
    refine wpList_append_own_at w hgd s x 26 ho base 65 i0 (.agg #[.int .i64 0, .int .i64 0, .string ByteArray.empty, .bool false]) 4 40 Tryz.underlying26 hi hz0 hz1 hz2 rfl (by decide) v f.length (ndCells f) hs hown ad g.length cx (ndCells g) hx (ndCells_len g) ?_ (ndCells_one g) (by unfold maxLen; omega) (by omega) hbase ?_
    · intro j u hj
      have hjl : j < (ndCells g).length := (List.getElem?_eq_some_iff.1 hj).1
      rw [ndCells_len] at hjl
      obtain ⟨b2, o2, e2, hb2, hc2⟩ := hrd (by omega)
      cases e2
      rw [Addr.add_lit, hc2 j hjl, ← hj, ndCells_get g hjl]
    · intro v' w' hown' hgrow _ _
      refine h v' w' (Lib.hid ?_) (hb.grown hgrow (Nat.le_trans hB hbase) fun j hj => ?_)
      · rw [← ndCells_append]; exact hown'
      · exact Nat.le_trans hB (hown.lt j hj).1
set_option maxRecDepth 100000 in
set_option maxHeartbeats 800000 in
theorem growNd_any (n : Nat) (w : World) (hn : n ≤ 1048576) : Calls Tryz.prog 149 #[.slice none 0 0, .int .i64 n] w fun e w' => ∃ u, e = .returned u ∧ w'.ownsRow w.heap.size 65 4 u ([] : List Nd).length (ndCells []) ∧ Below w.heap.size w w' := by
  obtain ⟨i0, hi, hz0, hz1, hz2⟩ := info_parts infoNd
  by_cases h0 : n = 0
  · subst h0
    go_enter Tryz.func149, Tryz.ntmps149
    go_wp2
    go_ret
    exact ⟨_, rfl, World.ownsRow_nil _ _ _ _, Below.refl _ _⟩
  · have hp : 0 < n := by omega
    have hrz : ∀ ty, (Builtin.append_ #[26, 3] ty #[.slice none 0 0, .int .i64 (n : Int)]).run Tryz.prog w =
        .ok (.slice (some ⟨w.heap.size, 0, none⟩) n (grownCap w n 0 65)) (w.drew.alloc (.cells (#[] ++ Builtin.zeroCells ((.agg #[.int .i64 0, .int .i64 0, .string ByteArray.empty, .bool false]) : Value).cells n ++ Builtin.zeroCells ((.agg #[.int .i64 0, .int .i64 0, .string ByteArray.empty, .bool false]) : Value).cells (grownCap w n 0 65 - n)) 65)) := fun ty => by
      have h := Lib.run_append_grow_zeros (P := Tryz.prog) w 26 3 ty 65 i0 (.agg #[.int .i64 0, .int .i64 0, .string ByteArray.empty, .bool false]) .i64 .i64 Tryz.underlying26 Tryz.underlying3 hi hz0 none 0 0 [] (run_firstCells_none w.drew i0.size 0 0 0) n hp (by rw [hz1]; decide) (by omega) (by omega) (by rw [hz2]; omega) (growslice_fits (by omega) (by rw [hz2]; omega))
      simpa using h
    have hG := grownCap_ge w n 0 65
    have hG2 := grownCap_le_maxLen w n 0 65 (by unfold maxLen; omega)
    obtain ⟨G, hGe⟩ : ∃ G, G = grownCap w n 0 65 := ⟨_, rfl⟩
    rw [← hGe] at hrz hG hG2
    have hG3 := hG2
    unfold maxLen at hG3
    have Hrz := Lib.hid hrz
    obtain ⟨Z, hZ⟩ : ∃ Z, Z = #[] ++ Builtin.zeroCells ((.agg #[.int .i64 0, .int .i64 0, .string ByteArray.empty, .bool false]) : Value).cells n ++ Builtin.zeroCells ((.agg #[.int .i64 0, .int .i64 0, .string ByteArray.empty, .bool false]) : Value).cells (G - n) := ⟨_, rfl⟩
    rw [← hZ] at Hrz
    have hZs : Z.size = G * 4 := by
      rw [hZ, Array.size_append, Array.size_append, size_zeroCells, size_zeroCells]
      simp [Value.cells]
      omega
    have HZs := Lib.hid hZs
    clear hrz hZ hGe hZs hG2
    go_enter Tryz.func149, Tryz.ntmps149
    go_wp2_with (at_builtin; refine Lib.wpList_append_run _ rfl _ _ _ _ rfl _ _ rfl rfl _ _ (Hrz.out _) ?_)
    go_wp2
    go_ret
    refine ⟨_, rfl, ⟨rfl, Or.inr ⟨w.heap.size, G, Z, rfl, Nat.le_refl _, ?_, Nat.zero_le _, by unfold maxLen; omega, by rw [HZs.out], by simp [ndCells]⟩⟩, ?_⟩
    · show (w.heap.push _)[w.heap.size]? = some _
      simp
    · exact (Below.refl _ w).drew.alloc (Nat.le_refl _) _
def fnth (parts : List (List Nd)) (k : Nat) : List Nd := parts.getD k []
theorem take_fl (parts : List (List Nd)) (k : Nat) (h : k < parts.length) : (parts.take (k + 1)).flatten = (parts.take k).flatten ++ fnth parts k := by
  rw [List.take_succ_eq_append_getElem h, List.flatten_append]
  simp [fnth, h]
theorem take_fl_le (parts : List (List Nd)) (k : Nat) : (parts.take k).flatten.length ≤ parts.flatten.length := by
  conv => rhs; rw [← List.take_append_drop k parts]
  rw [List.flatten_append, List.length_append]
  omega
set_option maxRecDepth 100000 in
set_option maxHeartbeats 1600000 in
theorem concatNd_any (vv : Value) (ps : Nat → Value) (parts : List (List Nd)) (w : World) (hn : parts.flatten.length ≤ 1048576) (hp : parts.length ≤ 1048576)
    (hv : Rd w 1 vv parts.length ps) (hps : ∀ k, k < parts.length → RdNd w (ps k) (fnth parts k)) :
    Calls Tryz.prog 120 #[vv] w fun e w' => ∃ u, e = .returned u ∧ w'.ownsRow w.heap.size 65 4 u parts.flatten.length (ndCells parts.flatten) ∧ Below w.heap.size w w' := by
  obtain ⟨av, cv, rfl, hcv, hmv, hv⟩ := hv
  unfold maxLen at hmv
  have Hps := Lib.hid hps
  obtain ⟨N, hN⟩ : ∃ N, N = parts.length := ⟨_, rfl⟩
  obtain ⟨T, hT⟩ : ∃ T, T = parts.flatten.length := ⟨_, rfl⟩
  rw [← hN] at hv hcv hp
  have hle : Hid (∀ k, (parts.take k).flatten.length ≤ T) := Lib.hid fun k => by rw [hT]; exact take_fl_le parts k
  have Hend : Hid ((parts.take N).flatten = parts.flatten) := Lib.hid (by rw [hN, List.take_length])
  rw [← hT] at hn
  rw [← hN]
  have HT := Lib.hid hT
  have HN := Lib.hid hN
  clear hps hT hN
  go_enter Tryz.func120, Tryz.ntmps120
  go_wp2
  go_loop [3, 11] (fun ss si => ∃ k : Nat, k ≤ N ∧ si = .int .i64 k ∧ ss = .int .i64 ((parts.take k).flatten.length : Nat)) (fun _ si => N - (intOf si).toNat)
  case atStart => exact ⟨0, Nat.zero_le _, rfl, by simp⟩
  case round =>
    obtain ⟨k, hk, rfl, rfl⟩ := hrel
    obtain ⟨S, hS⟩ : ∃ S, S = (parts.take k).flatten.length := ⟨_, rfl⟩
    have hST : S ≤ T := by rw [hS]; exact hle.out k
    rw [← hS]
    have HS := Lib.hid hS; clear hS
    by_cases hlt : k < N
    · obtain ⟨b1, o1, rfl, hb1, hc1⟩ := hv (by omega)
      obtain ⟨ak, ck, hvk, _⟩ := Hps.out k (by rw [← HN.out]; exact hlt)
      have g1 := hc1 k (by omega)
      rw [hvk] at g1
      obtain ⟨m, hm⟩ : ∃ m, m = (fnth parts k).length := ⟨_, rfl⟩
      rw [← hm] at g1
      have hSm : Hid ((parts.take (k + 1)).flatten.length = S + m) := Lib.hid (by rw [take_fl _ _ (by rw [← HN.out]; exact hlt), List.length_append, ← HS.out, ← hm])
      have hSmT : S + m ≤ T := by rw [← hSm.out]; exact hle.out _
      have hneg : ¬ ((S : Int) + (m : Int) < 0) := by omega
      clear hc1 hvk hm
      go_wp2
      go_round
      case rel => exact ⟨k + 1, by omega, by go_num, by rw [hSm.out]; go_num⟩
      case measure => simp [intOf]; omega
    · obtain rfl : N = k := by omega
      have hSe : S = T := by rw [HS.out, Hend.out, ← HT.out]
      rw [hSe]
      clear hSe HS hST
      go_wp2_with fail
      refine (growNd_any T w (by omega)).mono ?_
      rintro e w1 ⟨u, rfl, hu, hb1⟩
      have Hu := Lib.hid hu
      clear hu
      go_wp2
      go_loopw [6, 27] (fun sv si wr => ∃ k : Nat, k ≤ N ∧ si = .int .i64 k ∧ Hid (wr.ownsRow w.heap.size 65 4 sv (parts.take k).flatten.length (ndCells (parts.take k).flatten)) ∧ Below w.heap.size w wr) (fun _ si _ => N - (intOf si).toNat)
      case atStart => exact ⟨0, Nat.zero_le _, rfl, Lib.hid (by simpa using Hu.out), hb1⟩
      case round =>
        clear Hu hb1
        obtain ⟨k, hk, rfl, HI, hbl⟩ := hrel
        obtain ⟨F, hF⟩ : ∃ F, F = (parts.take k).flatten := ⟨_, rfl⟩
        have hST : F.length ≤ T := by rw [hF]; exact hle.out k
        rw [← hF] at HI
        obtain ⟨a5, c5, rfl⟩ := ownsRow_slice HI.out
        have HFe := Lib.hid hF
        clear hF
        by_cases hlt : k < N
        · obtain ⟨b1, o1, rfl, hb1, hc1⟩ := hv (by omega)
          have hpk := (Hps.out k (by rw [← HN.out]; exact hlt)).below hbl
          obtain ⟨ak, ck, hvk⟩ := hpk.slice
          have g1 : wr.cell? ⟨b1, o1 + k, none⟩ = some (ps k) := (hbl.cell (by exact hb1)).trans (hc1 k (by omega))
          rw [hvk] at g1 hpk
          obtain ⟨P, hP⟩ : ∃ P, P = fnth parts k := ⟨_, rfl⟩
          rw [← hP] at g1 hpk
          have hSm : Hid ((parts.take (k + 1)).flatten = F ++ P) := Lib.hid (by rw [hP, HFe.out]; exact take_fl _ _ (by rw [← HN.out]; exact hlt))
          have hSmT : F.length + P.length ≤ T := by have h := hle.out (k + 1); rw [hSm.out, List.length_append] at h; exact h
          have Hpk := Lib.hid hpk
          have hwl := hbl.size
          clear hc1 hvk hP hpk
          go_wp2_with (at_builtin; refine wpList_append_nd rfl _ _ rfl w.heap.size _ _ F.length F P rfl rfl rfl HI.out Hpk.out (by omega) hwl w.heap.size w hbl (Nat.le_refl _) ?_; intro v' w3 hown' hbl3)
          have HI2 : Hid (w3.ownsRow w.heap.size 65 4 v' (parts.take (k + 1)).flatten.length (ndCells (parts.take (k + 1)).flatten)) := Lib.hid (by rw [hSm.out, List.length_append]; exact hown'.out)
          clear hown'
          go_wp2
          go_roundw
          case rel => exact ⟨k + 1, by omega, by go_num, HI2, hbl3⟩
          case measure => simp [intOf]; omega
        · obtain rfl : N = k := by omega
          have Hown : Hid (wr.ownsRow w.heap.size 65 4 (.slice a5 F.length c5) parts.flatten.length (ndCells parts.flatten)) := Lib.hid (by rw [← Hend.out, ← HFe.out]; exact HI.out)
          go_wp2
          go_ret
          exact ⟨_, rfl, Hown.out, hbl⟩
end Go.Proofs.YtcakmchefbohoaaGreatDoor
